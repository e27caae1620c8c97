/- The least type that a node fits; types that are cut. -/
import Derived.Test.YtdpfpdejipkffaaSTy3
import Derived.Test.YtdpfpdejipkffaaSBot9
namespace Go.Ab
set_option linter.unusedVariables false
set_option linter.unusedSimpArgs false
set_option linter.unusedSectionVars false
theorem MayT.ha {L : Lt} {v : TY} (h : MayT L v) : L.is v.a = true := by cases h with | mk ha _ _ _ _ => exact ha
theorem MayT.hr {L : Lt} {v : TY} (h : MayT L v) : L.is v.r = true := by cases h with | mk _ hr _ _ _ => exact hr
theorem MayT.hu {L : Lt} {v : TY} (h : MayT L v) : ∀ u ∈ v.us, MayT L u := by cases h with | mk _ _ _ _ h => exact h
/-- No list in it is great. -/
inductive TY.Ti : TY → Prop where
  | mk {a r : Int} {ks : List ByteArray} {us : List TY} (hk : ks.length ≤ 134217728) (hu : us.length ≤ 134217728) (h : ∀ v ∈ us, v.Ti) : (TY.mk a ks us r).Ti
theorem TY.Ti.sm {v : TY} (h : v.Ti) : v.Sm := by
  induction h with
  | mk hk hu h ih => exact .mk (by omega) (by omega) ih
mutual
def allT (L : Lt) : TY → Nat
  | .mk a ks us r => allTs L (L.joinI a r) us
def allTs (L : Lt) : Nat → List TY → Nat
  | acc, [] => acc
  | acc, u :: us => allTs L (L.join acc (allT L u)) us
end
theorem allT_mk (L : Lt) (a : Int) (ks : List ByteArray) (us : List TY) (r : Int) : allT L (.mk a ks us r) = allTs L (L.joinI a r) us := by simp [allT]
mutual
theorem allT_lt {L : Lt} (O : L.Ok) : ∀ v : TY, allT L v < L.n
  | .mk a ks us r => by rw [allT_mk]; exact allTs_lt O us _ (O.joinI_lt a r)
theorem allTs_lt {L : Lt} (O : L.Ok) : ∀ (us : List TY) (acc : Nat), acc < L.n → allTs L acc us < L.n
  | [], acc, h => by simpa [allTs] using h
  | u :: us, acc, h => by rw [allTs]; exact allTs_lt O us _ (O.join _ _ h (allT_lt O u))
end
def cutT (L : Lt) : Nat → TY → TY
  | 0, .mk a ks us r => .mk a [] [] (allTs L (L.joinI r r) us)
  | d + 1, .mk a ks us r => .mk a ks (us.map (cutT L d)) r
mutual
def wholeN (L : Lt) : ND → TY
  | .mk a d k c s t is ks => if k = 6 then .mk a ks (wholeNs L is) L.bot else .mk a [] [] (deepNs L L.bot is)
def wholeNs (L : Lt) : List ND → List TY
  | [] => []
  | v :: r => wholeN L v :: wholeNs L r
end
theorem wholeNs_eq (L : Lt) : ∀ l : List ND, wholeNs L l = l.map (wholeN L)
  | [] => by simp [wholeNs]
  | v :: r => by simp [wholeNs, wholeNs_eq L r]
theorem wholeN_mk (L : Lt) (a d k c s : Int) (t : ByteArray) (is : List ND) (ks : List ByteArray) : wholeN L (.mk a d k c s t is ks) = if k = 6 then .mk a ks (is.map (wholeN L)) L.bot else .mk a [] [] (deepNs L L.bot is) := by simp [wholeN, wholeNs_eq]
def leastN (L : Lt) : Nat → ND → TY
  | 0, .mk a d k c s t is ks => .mk a [] [] (deepNs L L.bot is)
  | m + 1, .mk a d k c s t is ks => if k = 6 then .mk a ks (is.map (leastN L m)) L.bot else .mk a [] [] (deepNs L L.bot is)
theorem roomT (n : Nat) (x : FV) (l : List FV) (h : l.length = n) (hn : n < 134217728) : (decide ((l.length + [x].length) * 64 ≤ roomy) && decide (l.length + [x].length ≤ roomy)) = true := by
  have : roomy = 140737488355328 := rfl
  simp; omega
theorem roomT0 (x : FV) : (decide (((0 : Nat) + [x].length) * 64 ≤ roomy) && decide ((0 : Nat) + [x].length ≤ roomy)) = true := rfl
end Go.Ab
