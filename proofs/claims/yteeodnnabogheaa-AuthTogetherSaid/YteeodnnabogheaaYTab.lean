/- Tables of eight rows of eight places: their places read and set; what level's loops reckon, in plain Lean. -/
import Derived.Test.YteeodnnabogheaaYLat
import Derived.Laws.Tables
import Derived.Laws.CopyOwn
import Derived.RegionTactic
import Derived.Deep.MidRow
import Derived.BigRegion
import Derived.DeepKeys
import Derived.Laws.StructEq
namespace Go.Proofs.YteeodnnabogheaaY
open Go Go.RowKit Go.Proofs.YteeodnnabogheaaW.PrintWords Go.Proofs.YteeodnnabogheaaW.PrintLast Go.Proofs.YteeodnnabogheaaW.PrintMore

def tb (t : List Bool) (a b : Nat) : Bool := t.getD (a * 8 + b) false
def overLeast (t : List Bool) (n a b c : Nat) : Bool := (List.range n).all fun d => !tb t a d || !tb t b d || tb t c d
def overFrom (t : List Bool) (n a b : Nat) : Nat → Nat → Int
  | 0, _ => -1
  | m + 1, c => if tb t a c && tb t b c && overLeast t n a b c then c else overFrom t n a b m (c + 1)
def overI (t : List Bool) (n a b : Nat) : Int := overFrom t n a b n 0
theorem range_all_succ (f : Nat → Bool) (d : Nat) : (List.range (d + 1)).all f = ((List.range d).all f && f d) := by
  rw [List.range_succ, List.all_append]; simp
def Box (w : World) (g : Nat) (t : List Bool) (T : Nat) : Prop := w.heap[g]? = some (.cells (bvals t).toArray T (0, 0))
theorem Box.cell {w : World} {g T : Nat} {t : List Bool} (h : Box w g t T) (ht : t.length = 64) (a b : Nat) (ha : a < 8) (hb : b < 8) : w.cell? ⟨g, a * 8 + b, none⟩ = some (.bool (tb t a b)) := by
  have := blk_cell h (a * 8 + b)
  rw [this]
  simp only [bvals, List.getElem?_toArray, List.getElem?_map, tb, List.getD_eq_getElem?_getD]
  rw [List.getElem?_eq_getElem (by omega)]; rfl
def twistedI (t : List Bool) (n : Nat) : Bool := (List.range n).any fun a => (List.range a).any fun b => tb t a b && tb t b a
theorem range_any_succ (f : Nat → Bool) (d : Nat) : (List.range (d + 1)).any f = ((List.range d).any f || f d) := by
  rw [List.range_succ, List.any_append]; simp
/-- The table turned about, its first r places (by the rows of what is read) laid. -/
def turnedTo (t : List Bool) (r : Nat) : List Bool := (List.range 64).map fun i => if (i % 8) * 8 + i / 8 < r then tb t (i % 8) (i / 8) else false
def turnedI (t : List Bool) : List Bool := turnedTo t 64
theorem turnedTo_len (t : List Bool) (r : Nat) : (turnedTo t r).length = 64 := by simp [turnedTo]
theorem turnedTo_zero (t : List Bool) : turnedTo t 0 = List.replicate 64 false := by
  apply List.ext_getElem (by simp [turnedTo])
  intro i h1 h2
  rw [List.getElem_replicate]
  simp only [turnedTo, List.getElem_map, List.getElem_range]
  rw [if_neg (by omega)]
theorem turnedTo_set (t : List Bool) (a b : Nat) (ha : a < 8) (hb : b < 8) : (turnedTo t (a * 8 + b)).set (b * 8 + a) (tb t a b) = turnedTo t (a * 8 + (b + 1)) := by
  apply List.ext_getElem (by simp [turnedTo])
  intro i h1 h2
  have hi : i < 64 := by simpa [turnedTo] using h2
  rw [List.getElem_set]
  by_cases e : b * 8 + a = i
  · subst e
    rw [if_pos rfl]
    simp only [turnedTo, List.getElem_map, List.getElem_range]
    rw [show (b * 8 + a) % 8 = a by omega, show (b * 8 + a) / 8 = b by omega, if_pos (show a * 8 + b < a * 8 + (b + 1) by omega)]
  · rw [if_neg e]
    simp only [turnedTo, List.getElem_map, List.getElem_range]
    by_cases h : i % 8 * 8 + i / 8 < a * 8 + b
    · rw [if_pos h, if_pos (by omega)]
    · rw [if_neg h, if_neg (by omega)]
theorem turnedTo_full (t : List Bool) (r : Nat) (hr : 64 ≤ r) : turnedTo t r = turnedI t := by
  apply List.ext_getElem (by simp [turnedTo, turnedI])
  intro i h1 h2
  have hi : i < 64 := by simpa [turnedTo] using h1
  simp only [turnedTo, turnedI, List.getElem_map, List.getElem_range]
  rw [if_pos (by omega), if_pos (by omega)]
theorem tb_turned (t : List Bool) (a b : Nat) (ha : a < 8) (hb : b < 8) : tb (turnedI t) a b = tb t b a := by
  unfold tb turnedI turnedTo
  rw [List.getD_eq_getElem?_getD, List.getElem?_map, List.getElem?_range (by omega)]
  simp only [Option.map_some, Option.getD_some]
  rw [show (a * 8 + b) % 8 = b by omega, show (a * 8 + b) / 8 = a by omega, if_pos (by omega)]
  rfl
theorem bvals_set (t : List Bool) (i : Nat) (v : Bool) : (bvals t).toArray.setIfInBounds i (.bool v) = (bvals (t.set i v)).toArray := by
  simp [bvals, List.map_set]
theorem Box.put {w : World} {g T : Nat} {t : List Bool} (h : Box w g t T) (i : Nat) (v : Bool) : Box (w.setCell ⟨g, i, none⟩ (.bool v)) g (t.set i v) T := by
  unfold Box at *
  rw [← bvals_set]
  exact blk_set h i _
def closeC (a b : Nat) (t : List Bool) (c : Nat) : List Bool := t.set (a * 8 + c) (tb t a c || tb t a b && tb t b c)
def closeB (n a : Nat) (t : List Bool) (b : Nat) : List Bool := (List.range n).foldl (closeC a b) t
def closeA (n : Nat) (t : List Bool) (a : Nat) : List Bool := (List.range n).foldl (closeB n a) t
def closeAll (n : Nat) (t : List Bool) : List Bool := (List.range n).foldl (closeA n) t
def closedI : Nat → List Bool → Nat → Option (List Bool)
  | 0, _, _ => none
  | k + 1, t, n => if closeAll n t = t then some t else closedI k (closeAll n t) n
theorem foldl_range_succ {α : Type} (f : α → Nat → α) (x : α) (d : Nat) : (List.range (d + 1)).foldl f x = f ((List.range d).foldl f x) d := by
  rw [List.range_succ, List.foldl_append]; rfl
theorem foldl_len {f : List Bool → Nat → List Bool} (hf : ∀ t b, t.length = 64 → (f t b).length = 64) (d : Nat) : ∀ t : List Bool, t.length = 64 → ((List.range d).foldl f t).length = 64 := by
  intro t ht
  induction d with
  | zero => exact ht
  | succ d ih => rw [foldl_range_succ]; exact hf _ _ ih
theorem closeC_len (a b : Nat) (t : List Bool) (c : Nat) (h : t.length = 64) : (closeC a b t c).length = 64 := by simp [closeC, h]
theorem closeB_len (n a : Nat) (t : List Bool) (b : Nat) (h : t.length = 64) : (closeB n a t b).length = 64 := foldl_len (fun t b h => closeC_len _ _ t b h) n t h
theorem closeA_len (n : Nat) (t : List Bool) (a : Nat) (h : t.length = 64) : (closeA n t a).length = 64 := foldl_len (fun t b h => closeB_len _ _ t b h) n t h
theorem closeAll_len (n : Nat) (t : List Bool) (h : t.length = 64) : (closeAll n t).length = 64 := foldl_len (fun t b h => closeA_len _ t b h) n t h
theorem bvals_len (t : List Bool) : (bvals t).length = t.length := by simp [bvals]
theorem bvals_size (t : List Bool) : (bvals t).toArray.size = t.length := by simp [bvals]
theorem bvals_one (t : List Bool) : (bvals t).toArray.all (·.oneCell') = true := by
  rw [Array.all_eq_true_iff_forall_mem]
  intro v hv
  simp only [bvals, List.mem_toArray, List.mem_map] at hv
  obtain ⟨x, _, rfl⟩ := hv
  rfl
theorem chunks8 {α : Type} (l : List α) : ∀ n, ((List.range n).map fun i => (l.drop (i * 8)).take 8).flatten = l.take (n * 8)
  | 0 => by simp
  | n + 1 => by
    rw [List.range_succ, List.map_append, List.flatten_append, chunks8 l n]
    simp only [List.map_cons, List.map_nil, List.flatten_cons, List.flatten_nil, List.append_nil]
    rw [show (n + 1) * 8 = n * 8 + 8 by omega, List.take_add]
theorem mapM_some' {α β : Type} (f : α → Option β) (g : α → β) : ∀ l : List α, (∀ x ∈ l, f x = some (g x)) → l.mapM f = some (l.map g)
  | [], _ => rfl
  | x :: l, h => by
    rw [List.mapM_cons, h x (by simp), mapM_some' f g l (fun y hy => h y (by simp [hy]))]
    rfl
/-- Two tables are compared place by place. -/
theorem eq_table {P : Program} {T U B : TypeId} (hT : P.underlying T = some (.array 8 U)) (hU : P.underlying U = some (.array 8 B)) (hB : P.underlying B = some .bool)
    (cT : P.cellsOf T = 64) (cU : P.cellsOf U = 8) (cB : P.cellsOf B = 1) (hk : P.keyTypeAt 4 T = true) (w : World) (t u : List Bool) (ht : t.length = 64) (hu : u.length = 64) :
    (Op.equalIn 10000 T (.agg (bvals t).toArray) (.agg (bvals u).toArray)).run P w = .ok (decide (t = u)) w := by
  have row : ∀ r : List Bool, r.length = 8 → P.keyLits 2 U (bvals r) = some (r.map Lit.bool) := by
    intro r hr
    match r, hr with
    | [a, b, c, d, e, f, g, h], _ => simp [Program.keyLits, hU, hB, cU, cB, bvals, List.range, List.range.loop]
  have tab : ∀ r : List Bool, r.length = 64 → P.keyLits 3 T (bvals r) = some (r.map Lit.bool) := by
    intro r hr
    unfold Program.keyLits
    simp only [hT]
    rw [if_pos (by rw [bvals_len, cT, hr]), cU, mapM_some' _ (fun i => ((r.drop (i * 8)).take 8).map Lit.bool)]
    · simp only [Option.map_some, Option.some.injEq]
      have := chunks8 (r.map Lit.bool) 8
      rw [List.take_of_length_le (by simp [hr])] at this
      rw [← this]
      simp [List.map_drop, List.map_take]
    · intro i hi
      have hi := List.mem_range.1 hi
      rw [show ((bvals r).drop (i * 8)).take 8 = bvals ((r.drop (i * 8)).take 8) by simp [bvals, List.map_drop, List.map_take]]
      exact row _ (by simp; omega)
  have fm : ∀ r : List Bool, r.length = 64 → (Value.agg (bvals r).toArray).formed P T = true := by
    intro r hr
    simp [Value.formed, hT, bvals_len, cT, hr]
  have cl : ∀ r : List Bool, (Value.agg (bvals r).toArray).cells.toList = bvals r := by
    intro r
    simp [Value.cells]
  obtain ⟨r, hr, hiff⟩ := run_equalIn_deep (P := P) 9996 4 T hk w 3 3 _ _ _ _ (fm t ht) (fm u hu) (by rw [cl]; exact tab t ht) (by rw [cl]; exact tab u hu)
  rw [show (10000 : Nat) = 9996 + 4 from rfl, hr]
  have : r = decide (t = u) := by
    rw [Bool.eq_iff_iff, hiff, decide_eq_true_iff]
    exact ⟨fun e => (List.map_inj_right (fun _ _ h => by injection h)).1 e, fun e => by rw [e]⟩
  rw [this]
def diagC (t : List Bool) (i : Nat) : List Bool := t.set (i * 8 + i) true
def zeros64 : List Bool := List.replicate 64 false
def diagI (n : Nat) : List Bool := (List.range n).foldl diagC zeros64
theorem zeros64_len : zeros64.length = 64 := by simp [zeros64]
theorem diagC_len (t : List Bool) (b : Nat) (h : t.length = 64) : (diagC t b).length = 64 := by simp [diagC, h]
theorem diagI_len (n : Nat) : (diagI n).length = 64 := foldl_len diagC_len n _ zeros64_len
/-- Pairs laid into a table; false: one of them names what isn't there. -/
def laidPairs (n : Nat) : List (Int × Int) → List Bool → List Bool × Bool
  | [], t => (t, true)
  | p :: ps, t => if p.1 < 0 then (t, false) else if p.1 ≥ n then (t, false) else if p.2 < 0 then (t, false) else if p.2 ≥ n then (t, false) else laidPairs n ps (t.set (p.1.toNat * 8 + p.2.toNat) true)
def laidI (n : Nat) (l : List (Int × Int)) : List Bool × Bool := if l.length > 64 then (zeros64, false) else laidPairs n l (diagI n)
theorem laidPairs_len (n : Nat) : ∀ (l : List (Int × Int)) (t : List Bool), t.length = 64 → (laidPairs n l t).1.length = 64
  | [], t, h => h
  | p :: ps, t, h => by
    unfold laidPairs
    split
    · exact h
    · split
      · exact h
      · split
        · exact h
        · split
          · exact h
          · exact laidPairs_len n ps _ (by simp [h])
theorem laidI_len (n : Nat) (l : List (Int × Int)) : (laidI n l).1.length = 64 := by
  unfold laidI
  split
  · exact zeros64_len
  · exact laidPairs_len n l _ (diagI_len n)
/-- A lattice's block: names, three tables, bottom, top. -/
def latC (v : Value) (q : List Bool) (J M : List Int) (b t : Int) : List Value := [v] ++ (bvals q ++ (ivals J ++ (ivals M ++ [.int .i64 b, .int .i64 t])))
def LBox (w : World) (g : Nat) (v : Value) (q : List Bool) (J M : List Int) (b t : Int) (T : Nat) : Prop := w.heap[g]? = some (.cells (latC v q J M b t).toArray T (0, 0))
theorem ivals_len (t : List Int) : (ivals t).length = t.length := by simp [ivals]
section
variable {w : World} {g T : Nat} {v : Value} {q : List Bool} {J M : List Int} {b t : Int}
theorem latC_q (hq : q.length = 64) (i : Nat) (hi : i < 64) : (latC v q J M b t)[1 + i]? = some (.bool (q.getD i false)) := by
  unfold latC
  rw [List.getElem?_append_right (by simp only [List.length_singleton]; omega), List.getElem?_append_left (by rw [bvals_len]; simp only [List.length_singleton]; omega)]
  simp only [List.length_singleton, Nat.add_sub_cancel_left, bvals, List.getElem?_map, List.getD_eq_getElem?_getD]
  rw [List.getElem?_eq_getElem (by omega)]; rfl
theorem latC_J (hq : q.length = 64) (hJ : J.length = 64) (i : Nat) (hi : i < 64) : (latC v q J M b t)[65 + i]? = some (.int .i64 (J.getD i 0)) := by
  unfold latC
  rw [List.getElem?_append_right (by simp only [List.length_singleton]; omega), List.getElem?_append_right (by rw [bvals_len]; simp only [List.length_singleton]; omega), List.getElem?_append_left (by rw [bvals_len, ivals_len]; simp only [List.length_singleton]; omega), bvals_len]
  simp only [List.length_singleton, ivals, List.getElem?_map, List.getD_eq_getElem?_getD]
  rw [show 65 + i - 1 - q.length = i by omega, List.getElem?_eq_getElem (by omega)]; rfl
theorem latC_M (hq : q.length = 64) (hJ : J.length = 64) (hM : M.length = 64) (i : Nat) (hi : i < 64) : (latC v q J M b t)[129 + i]? = some (.int .i64 (M.getD i 0)) := by
  unfold latC
  rw [List.getElem?_append_right (by simp only [List.length_singleton]; omega), List.getElem?_append_right (by rw [bvals_len]; simp only [List.length_singleton]; omega), List.getElem?_append_right (by rw [bvals_len, ivals_len]; simp only [List.length_singleton]; omega), List.getElem?_append_left (by rw [bvals_len, ivals_len, ivals_len]; simp only [List.length_singleton]; omega), bvals_len, ivals_len]
  simp only [List.length_singleton, ivals, List.getElem?_map, List.getD_eq_getElem?_getD]
  rw [show 129 + i - 1 - q.length - J.length = i by omega, List.getElem?_eq_getElem (by omega)]; rfl
theorem latC_b (hq : q.length = 64) (hJ : J.length = 64) (hM : M.length = 64) : (latC v q J M b t)[193]? = some (.int .i64 b) := by
  unfold latC
  rw [List.getElem?_append_right (by simp), List.getElem?_append_right (by rw [bvals_len, hq]; simp), List.getElem?_append_right (by rw [bvals_len, ivals_len, hq, hJ]; simp), List.getElem?_append_right (by rw [bvals_len, ivals_len, ivals_len, hq, hJ, hM]; simp), bvals_len, ivals_len, ivals_len, hq, hJ, hM]; simp only [List.length_singleton]; rfl
theorem latC_t (hq : q.length = 64) (hJ : J.length = 64) (hM : M.length = 64) : (latC v q J M b t)[194]? = some (.int .i64 t) := by
  unfold latC
  rw [List.getElem?_append_right (by simp), List.getElem?_append_right (by rw [bvals_len, hq]; simp), List.getElem?_append_right (by rw [bvals_len, ivals_len, hq, hJ]; simp), List.getElem?_append_right (by rw [bvals_len, ivals_len, ivals_len, hq, hJ, hM]; simp), bvals_len, ivals_len, ivals_len, hq, hJ, hM]; simp only [List.length_singleton]; rfl
theorem latC_setJ (hq : q.length = 64) (hJ : J.length = 64) (i : Nat) (hi : i < 64) (x : Int) : (latC v q J M b t).set (65 + i) (.int .i64 x) = latC v q (J.set i x) M b t := by
  unfold latC
  rw [List.set_append_right _ _ (by simp only [List.length_singleton]; omega), List.set_append_right _ _ (by rw [bvals_len]; simp only [List.length_singleton]; omega), List.set_append_left _ _ (by rw [bvals_len, ivals_len]; simp only [List.length_singleton]; omega), bvals_len]
  simp only [List.length_singleton, ivals, List.map_set]
  rw [show 65 + i - 1 - q.length = i by omega]
theorem latC_setM (hq : q.length = 64) (hJ : J.length = 64) (hM : M.length = 64) (i : Nat) (hi : i < 64) (x : Int) : (latC v q J M b t).set (129 + i) (.int .i64 x) = latC v q J (M.set i x) b t := by
  unfold latC
  rw [List.set_append_right _ _ (by simp only [List.length_singleton]; omega), List.set_append_right _ _ (by rw [bvals_len]; simp only [List.length_singleton]; omega), List.set_append_right _ _ (by rw [bvals_len, ivals_len]; simp only [List.length_singleton]; omega), List.set_append_left _ _ (by rw [bvals_len, ivals_len, ivals_len]; simp only [List.length_singleton]; omega), bvals_len, ivals_len]
  simp only [List.length_singleton, ivals, List.map_set]
  rw [show 129 + i - 1 - q.length - J.length = i by omega]
theorem latC_setb (hq : q.length = 64) (hJ : J.length = 64) (hM : M.length = 64) (x : Int) : (latC v q J M b t).set 193 (.int .i64 x) = latC v q J M x t := by
  unfold latC
  rw [List.set_append_right _ _ (by simp), List.set_append_right _ _ (by rw [bvals_len, hq]; simp), List.set_append_right _ _ (by rw [bvals_len, ivals_len, hq, hJ]; simp), List.set_append_right _ _ (by rw [bvals_len, ivals_len, ivals_len, hq, hJ, hM]; simp), bvals_len, ivals_len, ivals_len, hq, hJ, hM]; simp only [List.length_singleton]; rfl
theorem latC_sett (hq : q.length = 64) (hJ : J.length = 64) (hM : M.length = 64) (x : Int) : (latC v q J M b t).set 194 (.int .i64 x) = latC v q J M b x := by
  unfold latC
  rw [List.set_append_right _ _ (by simp), List.set_append_right _ _ (by rw [bvals_len, hq]; simp), List.set_append_right _ _ (by rw [bvals_len, ivals_len, hq, hJ]; simp), List.set_append_right _ _ (by rw [bvals_len, ivals_len, ivals_len, hq, hJ, hM]; simp), bvals_len, ivals_len, ivals_len, hq, hJ, hM]; simp only [List.length_singleton]; rfl
theorem LBox.at (h : LBox w g v q J M b t T) {i : Nat} {x : Value} (hx : (latC v q J M b t)[i]? = some x) : w.cell? ⟨g, i, none⟩ = some x := by
  rw [blk_cell h, List.getElem?_toArray]; exact hx
theorem LBox.put (h : LBox w g v q J M b t T) {i : Nat} {x : Value} {q' : List Bool} {J' M' : List Int} {b' t' : Int} (hx : (latC v q J M b t).set i x = latC v q' J' M' b' t') : LBox (w.setCell ⟨g, i, none⟩ x) g v q' J' M' b' t' T := by
  unfold LBox at *
  rw [← hx]
  have := blk_set h i x
  rw [this]
  simp
theorem LBox.range (h : LBox w g v q J M b t T) (hq : q.length = 64) : w.rangeAt g 1 (bvals q) := by
  intro j x hj
  have hj' : j < 64 := by have := (List.getElem?_eq_some_iff.1 hj).1; rw [bvals_len] at this; omega
  have := h.at (latC_q (v := v) (J := J) (M := M) (b := b) (t := t) hq j hj')
  rw [this]
  simp only [bvals, List.getElem?_map, List.getD_eq_getElem?_getD] at hj ⊢
  rw [List.getElem?_eq_getElem (by omega)] at hj ⊢
  simpa using hj
end
def fillB (q d : List Bool) (n a : Nat) : Nat → Nat → List Int × List Int → Option (List Int × List Int)
  | 0, _, s => some s
  | m + 1, b, s => if overI q n a b < 0 then none else if overI d n a b < 0 then none else fillB q d n a m (b + 1) (s.1.set (a * 8 + b) (overI q n a b), s.2.set (a * 8 + b) (overI d n a b))
def fillA (q d : List Bool) (n : Nat) : Nat → Nat → List Int × List Int → Option (List Int × List Int)
  | 0, _, s => some s
  | m + 1, a, s => (fillB q d n a n 0 s).bind (fillA q d n m (a + 1))
def btI (J M : List Int) : Nat → Nat → Int × Int → Option (Int × Int)
  | 0, _, s => some s
  | m + 1, a, s => if 0 ≤ s.1 ∧ s.1 < 8 ∧ 0 ≤ s.2 ∧ s.2 < 8 then btI J M m (a + 1) (M.getD (s.1.toNat * 8 + a) 0, J.getD (s.2.toNat * 8 + a) 0) else none
/-- What fill makes of a table; none in it: there is no lattice. -/
def fillI (q : List Bool) (n : Nat) (J M : List Int) : Option (Option (List Int × List Int × Int × Int)) :=
  match fillA q (turnedI q) n n 0 (J, M) with
  | none => some none
  | some s => (btI s.1 s.2 n 0 (0, 0)).map fun x => some (s.1, s.2, x.1, x.2)
end Go.Proofs.YteeodnnabogheaaY
