import Derived.Test.YteeodnnabogheaaX5
import Derived.Test.YteeodnnabogheaaX1
import Derived.Test.YteeodnnabogheaaXRd
import Derived.IntWalk
import Derived.Laws.Closers25b
namespace Go.Proofs.Yteeodnnabogheaa.Pure
open Go.RowKit Go.Proofs.Yteeodnnabogheaa.X Go.Proofs.YteeodnnabogheaaY Go.Proofs.YteeodnnabogheaaW.PrintWords Go.Proofs.YteeodnnabogheaaW.PrintLast Go.Proofs.YteeodnnabogheaaW.PrintMore
theorem wf_i64 {m : Int} (h : (Lit.int .i64 m).wf = true) : -9223372036854775808 ≤ m ∧ m ≤ 9223372036854775807 := by
  have h1 : decide (IntKind.i64.min ≤ m ∧ m ≤ IntKind.i64.max) = true := by simpa [Lit.wf] using h
  exact of_decide_eq_true h1

theorem ev_now {α : Type} {g : Nat → Option α} {r : α} (h : ∀ k, g (k + 1) = some r) : Ev g r := Ev.step (f := fun _ => some r) h (Ev.now r)

def anyFrom (f : Nat → Bool) : Nat → Nat → Bool
  | 0, _ => false
  | m + 1, i => f i || anyFrom f m (i + 1)

def fi (l : List S36) (s : ByteArray) : Nat → Nat → Option Nat
  | 0, _ => none
  | m + 1, i => if (l.getD i z36).f0.toList = s.toList then some i else fi l s m (i + 1)

theorem findProg (l : List S36) (hl : l.length ≤ maxLen) (s : ByteArray) : ∀ m i : Nat, i + m = l.length → Ev (fun k => auth_Find.l0 k s l (l.length : Int) (i : Int)) (match fi l s m i with | some j => ((j : Int), true) | none => (0, false)) := by
  have hl2 : l.length ≤ 9223372036854775807 := hl
  intro m
  induction m with
  | zero => intro i hi; exact ev_now (fun k => by rw [auth_Find.l0, if_neg (by omega)]; rfl)
  | succ m ih =>
    intro i hi
    have h1 := ih (i + 1) (by omega)
    have e : ((i + 1 : Nat) : Int) = wrap64 ((i : Int) + 1) := by rw [IntWalk.wrap64_in _ (by omega)]; rfl
    rw [e] at h1
    have e2 : rd_T36 l (i : Int) = l.getD i z36 := rfl
    rw [fi]
    by_cases c : (l.getD i z36).f0.toList = s.toList
    · rw [if_pos c]
      exact ev_now (fun k => by rw [auth_Find.l0, if_pos (by omega), if_pos (by omega), if_pos (by omega), e2, if_pos c])
    · rw [if_neg c]
      refine Ev.step (fun k => ?_) h1
      rw [auth_Find.l0, if_pos (by omega), if_pos (by omega), if_pos (by omega), e2, if_neg c]

theorem ok36 {x : S36} (h : Ok36 x) : x.f0.size ≤ 140737488351232 ∧ x.f1.length ≤ maxLen := by
  cases h with
  | mk h0 h1 h2 h3 => exact ⟨h0, h1⟩

theorem getD_mem {α : Type} {l : List α} {i : Nat} {z : α} (h : i < l.length) : l.getD i z ∈ l := by
  simp [List.getD, List.getElem?_eq_getElem h]

theorem lives_true : Ev (fun k => keyholelaw02_lives.f k) true := Ev.of keyholelaw02_lives.mono (k := 60) (by decide +kernel)

theorem light_some (l : List S36) (hl : l.length ≤ maxLen) : ∃ b, Ev (fun k => keyholelaw02_light.f k l) b := by
  have hl2 : l.length ≤ 9223372036854775807 := hl
  have loop : ∀ m i : Nat, i + m = l.length → ∃ b, Ev (fun k => keyholelaw02_light.l0 k l (i : Int)) b := by
    intro m
    induction m with
    | zero =>
      intro i hi
      refine ⟨decide ((l.length : Int) ≤ 20), Ev.step (f := fun k => keyholelaw02_light.j1 k l (i : Int) false) (fun k => by rw [keyholelaw02_light.l0, if_neg (by omega)]) (ev_now (fun k => ?_))⟩
      rw [keyholelaw02_light.j1, if_neg (by simp)]
    | succ m ih =>
      intro i hi
      obtain ⟨b, h1⟩ := ih (i + 1) (by omega)
      have e : ((i + 1 : Nat) : Int) = wrap64 ((i : Int) + 1) := by rw [IntWalk.wrap64_in _ (by omega)]; rfl
      rw [e] at h1
      by_cases c : (i : Int) < 20
      · by_cases c2 : (((rd_T36 l i).f1).length : Int) > 50
        · refine ⟨false, Ev.step (f := fun k => keyholelaw02_light.j1 k l (i : Int) true) (fun k => by rw [keyholelaw02_light.l0, if_pos (by omega), decide_eq_true c]) (ev_now (fun k => ?_))⟩
          rw [keyholelaw02_light.j1, if_pos rfl, if_pos (by omega), if_pos (by omega), if_pos c2]
        · refine ⟨b, Ev.step (f := fun k => keyholelaw02_light.j1 k l (i : Int) true) (fun k => by rw [keyholelaw02_light.l0, if_pos (by omega), decide_eq_true c]) (Ev.step (fun k => ?_) h1)⟩
          rw [keyholelaw02_light.j1, if_pos rfl, if_pos (by omega), if_pos (by omega), if_neg c2]
      · refine ⟨decide ((l.length : Int) ≤ 20), Ev.step (f := fun k => keyholelaw02_light.j1 k l (i : Int) false) (fun k => by rw [keyholelaw02_light.l0, if_pos (by omega), decide_eq_false c]) (ev_now (fun k => ?_))⟩
        rw [keyholelaw02_light.j1, if_neg (by simp)]
  exact loop l.length 0 (by omega)

def lq (L : Lat) (a b : Int) : Bool := L.is a && L.is b && tab8 L.leq false a b

theorem leq_f (L : Lat) (h8 : L.names.length ≤ 8) (a b : Int) : level_Lattice_Leq.f [L] a b = some (lq L a b) := by
  simp only [level_Lattice_Leq.f, lq]
  by_cases c : (L.is a && L.is b) = true
  · rw [if_pos c, c]
    simp only [Lat.is, Bool.and_eq_true, decide_eq_true_eq] at c
    rw [if_pos (by omega), if_pos (by omega), Bool.true_and]
  · rw [if_neg c, Bool.eq_false_iff.2 c, Bool.false_and]

def ovr (L : Lat) (l : List S36) (s : ByteArray) (a : Int) : Bool := match fi l s l.length 0 with
  | none => false
  | some q => anyFrom (fun j => lq L a ((l.getD q z36).f1.getD j 0)) (l.getD q z36).f1.length 0

theorem overLoop (L : Lat) (h8 : L.names.length ≤ 8) (a : Int) (o : List Int) (ho : o.length ≤ maxLen) : ∀ m j : Nat, j + m = o.length → Ev (fun k => auth_Over.l0 k [L] a o (o.length : Int) (j : Int)) (anyFrom (fun j => lq L a (o.getD j 0)) m j) := by
  have ho2 : o.length ≤ 9223372036854775807 := ho
  intro m
  induction m with
  | zero => intro i hi; exact ev_now (fun k => by rw [auth_Over.l0, if_neg (by omega)]; rfl)
  | succ m ih =>
    intro i hi
    have h1 := ih (i + 1) (by omega)
    have e : ((i + 1 : Nat) : Int) = wrap64 ((i : Int) + 1) := by rw [IntWalk.wrap64_in _ (by omega)]; rfl
    rw [e] at h1
    have e2 : rd o (i : Int) = o.getD i 0 := rfl
    simp only [anyFrom]
    by_cases c : lq L a (o.getD i 0) = true
    · rw [c, Bool.true_or]
      refine ev_now (fun k => ?_)
      rw [auth_Over.l0, if_pos (by omega), if_pos (by omega), if_pos (by omega), e2, leq_f L h8, Option.bind_some, if_pos c]
    · rw [Bool.eq_false_iff.2 c, Bool.false_or]
      refine Ev.step (fun k => ?_) h1
      rw [auth_Over.l0, if_pos (by omega), if_pos (by omega), if_pos (by omega), e2, leq_f L h8, Option.bind_some, if_neg c]

theorem fi_lt (l : List S36) (s : ByteArray) : ∀ m i q : Nat, fi l s m i = some q → q < i + m := by
  intro m
  induction m with
  | zero => intro i q h; simp [fi] at h
  | succ m ih =>
    intro i q h
    rw [fi] at h
    split at h
    · injection h with h; omega
    · have := ih _ _ h; omega

theorem overProg (L : Lat) (h8 : L.names.length ≤ 8) (l : List S36) (hl : l.length ≤ maxLen) (ho : ∀ y ∈ l, Ok36 y) (s : ByteArray) (a : Int) : Ev (fun k => auth_Over.f k [L] l s a) (ovr L l s a) := by
  unfold auth_Over.f ovr
  refine Ev.bind (findProg l hl s l.length 0 (by omega)) ?_
  cases hf : fi l s l.length 0 with
  | none => exact Ev.congr (fun k => by rw [if_neg (by simp)]) (Ev.now _)
  | some q =>
    have hq := fi_lt _ _ _ _ _ hf
    have ho2 := ok36 (ho _ (getD_mem (z := z36) (show q < l.length by omega)))
    refine Ev.congr (fun k => ?_) (overLoop L h8 a (l.getD q z36).f1 ho2.2 _ 0 (Nat.zero_add _))
    show (if true = true then (if 0 ≤ (q : Int) then (if (q : Int) < (l.length : Int) then _ else none) else none) else some false) = _
    rw [if_pos rfl, if_pos (by omega), if_pos (by omega)]
    rfl

def flt (f : Int → Bool) : Nat → Nat → List Int
  | 0, _ => []
  | m + 1, a => if f a = true then (a : Int) :: flt f m (a + 1) else flt f m (a + 1)

theorem reachLoop (L : Lat) (h8 : L.names.length ≤ 8) (l : List S36) (hl : l.length ≤ maxLen) (ho : ∀ y ∈ l, Ok36 y) (s : ByteArray) : ∀ m a : Nat, a + m = L.names.length → ∀ out : List Int, out.length ≤ a →
    Ev (fun k => auth_Reach.l0 k [L] l s out (L.names.length : Int) (a : Int)) (out ++ flt (ovr L l s) m a) := by
  intro m
  induction m with
  | zero => intro a ha out hout; rw [flt, List.append_nil]; exact ev_now (fun k => by rw [auth_Reach.l0, if_neg (by omega)])
  | succ m ih =>
    intro a ha out hout
    have e : ((a + 1 : Nat) : Int) = wrap64 ((a : Int) + 1) := by rw [IntWalk.wrap64_in _ (by omega)]; rfl
    refine Ev.step (f := fun k => (auth_Over.f k [L] l s a).bind fun t => if t = true then (if out.length < 17592186044416 then auth_Reach.l0 k [L] l s (out ++ [(a : Int)]) (L.names.length : Int) (wrap64 ((a : Int) + 1)) else none) else auth_Reach.l0 k [L] l s out (L.names.length : Int) (wrap64 ((a : Int) + 1))) (fun k => by rw [auth_Reach.l0, if_pos (by omega)]) ?_
    refine Ev.bind (overProg L h8 l hl ho s a) ?_
    rw [flt]
    by_cases c : ovr L l s a = true
    · have h1 := ih (a + 1) (by omega) (out ++ [(a : Int)]) (by rw [List.length_append]; simp; omega)
      rw [e] at h1
      rw [if_pos c, show out ++ (a : Int) :: flt (ovr L l s) m (a + 1) = (out ++ [(a : Int)]) ++ flt (ovr L l s) m (a + 1) by simp]
      exact Ev.congr (fun k => by rw [if_pos c, if_pos (by omega)]) h1
    · have h1 := ih (a + 1) (by omega) out (by omega)
      rw [e] at h1
      rw [if_neg c]
      exact Ev.congr (fun k => by rw [if_neg c]) h1

theorem reachProg (L : Lat) (h8 : L.names.length ≤ 8) (l : List S36) (hl : l.length ≤ maxLen) (ho : ∀ y ∈ l, Ok36 y) (s : ByteArray) : Ev (fun k => auth_Reach.f k [L] l s) (flt (ovr L l s) L.names.length 0) :=
  Ev.congr (f := fun k => auth_Reach.l0 k [L] l s ([] : List Int) (L.names.length : Int) ((0 : Nat) : Int)) (fun k => rfl) (reachLoop L h8 l hl ho s _ 0 (Nat.zero_add _) [] (Nat.le_refl _))

/-- the lattice's order: every level below itself; what is below what is below is below -/
def Ord (L : Lat) : Prop := L.names.length ≤ 8 ∧ (∀ a, a < L.names.length → L.leq.getD (a * 8 + a) false = true) ∧ ∀ a b c, a < L.names.length → b < L.names.length → c < L.names.length → L.leq.getD (a * 8 + b) false = true → L.leq.getD (b * 8 + c) false = true → L.leq.getD (a * 8 + c) false = true
def ordB (L : Lat) : Bool := decide (L.names.length ≤ 8) && (List.range L.names.length).all fun a => L.leq.getD (a * 8 + a) false && (List.range L.names.length).all fun b => (List.range L.names.length).all fun c => !L.leq.getD (a * 8 + b) false || !L.leq.getD (b * 8 + c) false || L.leq.getD (a * 8 + c) false
theorem ordB_Ord {L : Lat} (h : ordB L = true) : Ord L := by
  unfold ordB at h
  simp only [Bool.and_eq_true, decide_eq_true_eq, List.all_eq_true, List.mem_range, Bool.or_eq_true, Bool.not_eq_true'] at h
  refine ⟨h.1, fun a ha => (h.2 a ha).1, fun a b c ha hb hc h1 h2 => ?_⟩
  rcases (h.2 a ha).2 b hb c hc with (h3 | h3) | h3
  · rw [h3] at h1; cases h1
  · rw [h3] at h2; cases h2
  · exact h3
def newOrd (P : List ByteArray × List S52 × List S36) : Bool := match level_New.f 200 P.1 P.2.1 P.2.2 with
  | some ([L], e) => decide (e = 0) && ordB L
  | _ => false
theorem newOrd_some (P : List ByteArray × List S52 × List S36) (h : newOrd P = true) : ∃ L : Lat, Ev (fun k => level_New.f k P.1 P.2.1 P.2.2) ([L], 0) ∧ Ord L := by
  unfold newOrd at h
  split at h
  · rename_i L e he
    simp only [Bool.and_eq_true, decide_eq_true_eq] at h
    obtain ⟨rfl, hn⟩ := h
    exact ⟨L, Ev.of (level_New.mono _ _ _) he, ordB_Ord hn⟩
  · cases h
theorem sortsO (a : Int) : ∃ (P : List ByteArray × List S52 × List S36) (L : Lat), keyholeref01_Sort.f a = some P ∧ Ev (fun k => level_New.f k P.1 P.2.1 P.2.2) ([L], 0) ∧ Ord L := by
  have key : ∀ P : List ByteArray × List S52 × List S36, newOrd P = true → ∃ (P' : List ByteArray × List S52 × List S36) (L : Lat), some P = some P' ∧ Ev (fun k => level_New.f k P'.1 P'.2.1 P'.2.2) ([L], 0) ∧ Ord L := by
    intro P h
    obtain ⟨L, h1, h2⟩ := newOrd_some P h
    exact ⟨P, L, rfl, h1, h2⟩
  unfold keyholeref01_Sort.f
  split
  · exact key _ (by decide +kernel)
  split
  · exact key _ (by decide +kernel)
  split
  · exact key _ (by decide +kernel)
  split
  · exact key _ (by decide +kernel)
  split
  · exact key _ (by decide +kernel)
  · exact key _ (by decide +kernel)
theorem is_nat {L : Lat} {a : Int} (h : L.is a = true) : ∃ n : Nat, a = (n : Int) ∧ n < L.names.length := by
  simp only [Lat.is, Bool.and_eq_true, decide_eq_true_eq] at h
  exact ⟨a.toNat, by omega, by omega⟩
theorem lq_refl {L : Lat} (hO : Ord L) {a : Int} (h : L.is a = true) : lq L a a = true := by
  obtain ⟨n, rfl, hn⟩ := is_nat h
  unfold lq
  rw [h]
  exact hO.2.1 n hn
theorem lq_trans {L : Lat} (hO : Ord L) {a b c : Int} (h1 : lq L a b = true) (h2 : lq L b c = true) : lq L a c = true := by
  unfold lq at h1 h2 ⊢
  simp only [Bool.and_eq_true] at h1 h2 ⊢
  obtain ⟨⟨ha, hb⟩, h1⟩ := h1
  obtain ⟨⟨_, hc⟩, h2⟩ := h2
  refine ⟨⟨ha, hc⟩, ?_⟩
  obtain ⟨x, rfl, hx⟩ := is_nat ha
  obtain ⟨y, rfl, hy⟩ := is_nat hb
  obtain ⟨z, rfl, hz⟩ := is_nat hc
  exact hO.2.2 x y z hx hy hz h1 h2
theorem any_imp {f g : Nat → Bool} (h : ∀ j, f j = true → g j = true) : ∀ m i, anyFrom f m i = true → anyFrom g m i = true := by
  intro m
  induction m with
  | zero => intro i h; cases h
  | succ m ih =>
    intro i hi
    simp only [anyFrom, Bool.or_eq_true] at hi ⊢
    exact hi.imp (h i) (ih (i + 1))
theorem any_at {f : Nat → Bool} {j : Nat} (h : f j = true) : ∀ m i, i ≤ j → j < i + m → anyFrom f m i = true := by
  intro m
  induction m with
  | zero => intro i h1 h2; omega
  | succ m ih =>
    intro i h1 h2
    simp only [anyFrom, Bool.or_eq_true]
    rcases Nat.lt_or_ge i j with h3 | h3
    · exact .inr (ih (i + 1) (by omega) (by omega))
    · exact .inl (by rwa [show i = j by omega])
theorem ovr_down {L : Lat} (hO : Ord L) {l : List S36} {s : ByteArray} {a b : Int} (h : lq L a b = true) (hb : ovr L l s b = true) : ovr L l s a = true := by
  unfold ovr at hb ⊢
  split at hb
  · cases hb
  · rename_i q hq
    exact any_imp (fun j hj => lq_trans hO h hj) _ _ hb
end Go.Proofs.Yteeodnnabogheaa.Pure
