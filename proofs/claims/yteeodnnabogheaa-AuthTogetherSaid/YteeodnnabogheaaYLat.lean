/- The lattice behind a pointer, as a kind: its names, three tables of 64 places, its bottom and top. -/
import Derived.Test.YteeodnnabogheaaWWords
import Derived.Test.YteeodnnabogheaaWArr
import Derived.Test.YteeodnnabogheaaWFoot
import Derived.Test.YteeodnnabogheaaWMore
namespace Go.Proofs.YteeodnnabogheaaY
open Go Go.RowKit Go.Proofs.YteeodnnabogheaaW.PrintWords Go.Proofs.YteeodnnabogheaaW.PrintLast Go.Proofs.YteeodnnabogheaaW.PrintMore

structure Lat where
  names : List ByteArray
  leq : List Bool
  join : List Int
  meet : List Int
  bottom : Int
  top : Int
def zLat : Lat := ⟨[], [], [], [], 0, 0⟩
def klat : Kd Lat := Kd.iso (Kd.pair (Kd.slice 9 Kd.string) (Kd.pair (Kd.arr 64 Kd.bool (by decide)) (Kd.pair (Kd.arr 64 (Kd.int .i64) (by decide)) (Kd.pair (Kd.arr 64 (Kd.int .i64) (by decide)) (Kd.pair (Kd.int .i64) (Kd.int .i64)))))) (fun x => (x.names, x.leq, x.join, x.meet, x.bottom, x.top))

def bvals (l : List Bool) : List Value := l.map Value.bool
def ivals (l : List Int) : List Value := l.map (Value.int .i64)
theorem reps_map {α : Type} (f : α → Value) : ∀ {ps : List α} {cs : List Value}, Reps (fun x c => c = [f x]) 1 ps cs ↔ cs = ps.map f := by
  intro ps cs
  constructor
  · intro h
    apply List.ext_getElem?
    intro i
    by_cases hi : i < ps.length
    · have := h.2 i ps[i] (List.getElem?_eq_getElem hi)
      rw [Nat.mul_one] at this
      rw [List.getElem?_map, List.getElem?_eq_getElem hi]
      have h2 : (((cs.drop i).take 1)[0]?) = some (f ps[i]) := by rw [this]; rfl
      rw [List.getElem?_take] at h2
      simp at h2
      simpa using h2
    · rw [List.getElem?_eq_none (by rw [h.1]; omega), List.getElem?_eq_none (by simp; omega)]
  · rintro rfl
    refine ⟨by simp, fun i p hi => ?_⟩
    obtain ⟨hi', rfl⟩ := List.getElem?_eq_some_iff.1 hi
    rw [Nat.mul_one]
    apply List.ext_getElem?
    intro j
    rcases j with _ | j
    · simp [List.getElem?_drop, hi']
    · simp [List.getElem?_take]
theorem klat_K {w : World} {x : Lat} {cs : List Value} : klat.K w x cs ↔ ∃ A c, cs = [.slice A x.names.length c] ++ (bvals x.leq ++ (ivals x.join ++ (ivals x.meet ++ [.int .i64 x.bottom, .int .i64 x.top]))) ∧ x.names.length ≤ c ∧ Kd.string.C w A x.names.length x.names ∧ x.leq.length = 64 ∧ x.join.length = 64 ∧ x.meet.length = 64 := by
  constructor
  · rintro ⟨_, _, rfl, ⟨A, c, rfl, hl, hc⟩, ⟨_, _, rfl, ⟨n1, r1⟩, ⟨_, _, rfl, ⟨n2, r2⟩, ⟨_, _, rfl, ⟨n3, r3⟩, ⟨_, _, rfl, rfl, rfl⟩⟩⟩⟩⟩
    obtain rfl := (reps_map Value.bool).1 r1
    obtain rfl := (reps_map (Value.int .i64)).1 r2
    obtain rfl := (reps_map (Value.int .i64)).1 r3
    exact ⟨A, c, rfl, hl, hc, n1, n2, n3⟩
  · rintro ⟨A, c, rfl, hl, hc, n1, n2, n3⟩
    exact ⟨_, _, rfl, ⟨A, c, rfl, hl, hc⟩, ⟨_, _, rfl, ⟨n1, (reps_map Value.bool).2 rfl⟩, ⟨_, _, rfl, ⟨n2, (reps_map (Value.int .i64)).2 rfl⟩, ⟨_, _, rfl, ⟨n3, (reps_map (Value.int .i64)).2 rfl⟩, ⟨_, _, rfl, rfl, rfl⟩⟩⟩⟩⟩

theorem lat_get {w : World} {A : Option Addr} {l : List Lat} {L : Lat} {t : List Lat} (hl : l = L :: t) (h : Kd.C klat w A l.length l) : ∃ ad An cn, A = some ad ∧ w.cell? ad = some (.slice An L.names.length cn) ∧ L.names.length ≤ cn ∧ Kd.string.C w An L.names.length L.names ∧
    (∀ a b : Nat, a < 8 → b < 8 → w.cell? ⟨ad.block, ad.off + 1 + a * 8 + b, none⟩ = some (.bool (L.leq.getD (a * 8 + b) false))) ∧
    (∀ a b : Nat, a < 8 → b < 8 → w.cell? ⟨ad.block, ad.off + 65 + a * 8 + b, none⟩ = some (.int .i64 (L.join.getD (a * 8 + b) 0))) ∧
    (∀ a b : Nat, a < 8 → b < 8 → w.cell? ⟨ad.block, ad.off + 129 + a * 8 + b, none⟩ = some (.int .i64 (L.meet.getD (a * 8 + b) 0))) ∧
    w.cell? ⟨ad.block, ad.off + 193, none⟩ = some (.int .i64 L.bottom) ∧ w.cell? ⟨ad.block, ad.off + 194, none⟩ = some (.int .i64 L.top) := by
  subst hl
  obtain ⟨ad, c, e, _, hK, hc⟩ := Kd.C_get h zLat 0 (by omega) (by simp only [List.length_cons]; omega)
  obtain ⟨An, cn, rfl, hl, hC, n1, n2, n3⟩ := klat_K.1 hK
  simp only [show ((0 : Int).toNat) = 0 from rfl, List.getD_cons_zero, Nat.zero_mul, Nat.zero_add] at *
  have key : ∀ j u, 0 < j → ([Value.slice An L.names.length cn] ++ (bvals L.leq ++ (ivals L.join ++ (ivals L.meet ++ [.int .i64 L.bottom, .int .i64 L.top]))))[j]? = some u → w.cell? ⟨ad.block, ad.off + j, none⟩ = some u := by
    intro j u hj hu
    have := hc j u hu
    unfold Addr.add at this
    rwa [if_neg (by omega)] at this
  have hb : (bvals L.leq).length = 64 := by simp [bvals, n1]
  have hi : (ivals L.join).length = 64 := by simp [ivals, n2]
  have hm : (ivals L.meet).length = 64 := by simp [ivals, n3]
  refine ⟨ad, An, cn, e, ?_, hl, hC, ?_, ?_, ?_, ?_, ?_⟩
  · have := hc 0 _ rfl
    unfold Addr.add at this
    rwa [if_pos rfl] at this
  · intro a b ha hb'
    rw [show ad.off + 1 + a * 8 + b = ad.off + (1 + (a * 8 + b)) by omega]
    refine key _ _ (by omega) ?_
    rw [List.getElem?_append_right (by simp only [List.length_singleton]; omega), List.getElem?_append_left (by rw [hb]; simp only [List.length_singleton]; omega)]
    simp only [List.length_singleton, Nat.add_sub_cancel_left, bvals, List.getElem?_map, List.getD_eq_getElem?_getD]
    rw [List.getElem?_eq_getElem (by omega)]; rfl
  · intro a b ha hb'
    rw [show ad.off + 65 + a * 8 + b = ad.off + (65 + (a * 8 + b)) by omega]
    refine key _ _ (by omega) ?_
    rw [List.getElem?_append_right (by simp only [List.length_singleton]; omega), List.getElem?_append_right (by rw [hb]; simp only [List.length_singleton]; omega), List.getElem?_append_left (by rw [hb, hi]; simp only [List.length_singleton]; omega), hb]
    simp only [List.length_singleton, ivals, List.getElem?_map, List.getD_eq_getElem?_getD]
    rw [show 65 + (a * 8 + b) - 1 - 64 = a * 8 + b by omega, List.getElem?_eq_getElem (by omega)]; rfl
  · intro a b ha hb'
    rw [show ad.off + 129 + a * 8 + b = ad.off + (129 + (a * 8 + b)) by omega]
    refine key _ _ (by omega) ?_
    rw [List.getElem?_append_right (by simp only [List.length_singleton]; omega), List.getElem?_append_right (by rw [hb]; simp only [List.length_singleton]; omega), List.getElem?_append_right (by rw [hb, hi]; simp only [List.length_singleton]; omega), List.getElem?_append_left (by rw [hb, hi, hm]; simp only [List.length_singleton]; omega), hb, hi]
    simp only [List.length_singleton, ivals, List.getElem?_map, List.getD_eq_getElem?_getD]
    rw [show 129 + (a * 8 + b) - 1 - 64 - 64 = a * 8 + b by omega, List.getElem?_eq_getElem (by omega)]; rfl
  · refine key 193 _ (by omega) ?_
    rw [List.getElem?_append_right (by simp), List.getElem?_append_right (by rw [hb]; simp), List.getElem?_append_right (by rw [hb, hi]; simp), List.getElem?_append_right (by rw [hb, hi, hm]; simp), hb, hi, hm]; simp only [List.length_singleton]; rfl
  · refine key 194 _ (by omega) ?_
    rw [List.getElem?_append_right (by simp), List.getElem?_append_right (by rw [hb]; simp), List.getElem?_append_right (by rw [hb, hi]; simp), List.getElem?_append_right (by rw [hb, hi, hm]; simp), hb, hi, hm]; simp only [List.length_singleton]; rfl
theorem klat_heap : Kd.Heap klat := Kd.heap_iso _ (Kd.heap_pair (Kd.heap_slice 9 Kd.heap_string) (Kd.heap_pair (Kd.heap_arr Kd.heap_bool) (Kd.heap_pair (Kd.heap_arr (Kd.heap_int .i64)) (Kd.heap_pair (Kd.heap_arr (Kd.heap_int .i64)) (Kd.heap_pair (Kd.heap_int .i64) (Kd.heap_int .i64))))))
def ptrOf : Value → Value
  | .slice a _ _ => .pointer a
  | v => v
@[go_sem] theorem ptrOf_slice (a : Option Addr) (n c : Nat) : ptrOf (.slice a n c) = .pointer a := rfl
theorem lat_some_C {w : World} {A : Option Addr} {n : Nat} {l : List Lat} (h : Kd.C klat w A n l) (h0 : 0 < (l.length : Int)) : A.isNone = false := by
  obtain ⟨h1, _, h3⟩ := h
  obtain ⟨ad, rfl, _⟩ := h3 (by omega)
  rfl
theorem lat_some_V {e : Nat} {w : World} {base : Nat} {ok : Nat → Prop} {A : Option Addr} {n c : Nat} {l : List Lat} (h : Kd.V klat e w base ok (.slice A n c) l) (h0 : 0 < (l.length : Int)) : A.isNone = false := by
  obtain ⟨_, _, hF⟩ := Kd.V_at h
  exact lat_some_C (Kd.F_now hF) h0
theorem run_equalIn_ptr_nil {P : Program} (w : World) (d : Nat) (t e : TypeId) (a : Option Addr) (h : P.underlying t = some (.pointer e)) : (Op.equalIn (d + 1) t (.pointer a) (.pointer none)).run P w = .ok a.isNone w := by
  cases a <;> simp [Op.equalIn, run_underlying h]
theorem run_equal_ptr_nil {P : Program} (w : World) (t e : TypeId) (a : Option Addr) (h : P.underlying t = some (.pointer e)) : (Op.equal t (.pointer a) (.pointer none)).run P w = .ok a.isNone w := run_equalIn_ptr_nil w 9999 t e a h
@[go_sem] theorem run_eql_ptr_nil {P : Program} (w : World) (t e : TypeId) (a : Option Addr) (h : P.underlying t = some (.pointer e)) : (binOp .eql t (.pointer a) (.pointer none)).run P w = .ok (.bool a.isNone) w := by
  simp only [binOp]
  simp [run_equal_ptr_nil w t e a h]
@[go_sem] theorem run_neq_ptr_nil {P : Program} (w : World) (t e : TypeId) (a : Option Addr) (h : P.underlying t = some (.pointer e)) : (binOp .neq t (.pointer a) (.pointer none)).run P w = .ok (.bool (!a.isNone)) w := by
  simp only [binOp]
  simp [run_equal_ptr_nil w t e a h]
def Lat.is (L : Lat) (a : Int) : Bool := decide (0 ≤ a) && decide (a < (L.names.length : Int))
def tab8 {α : Type} (l : List α) (z : α) (a b : Int) : α := l.getD (a.toNat * 8 + b.toNat) z
end Go.Proofs.YteeodnnabogheaaY
