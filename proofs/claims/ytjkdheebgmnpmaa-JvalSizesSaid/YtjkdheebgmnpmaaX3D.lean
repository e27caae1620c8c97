-- Written for this claim by a program of the session, out of the translation's print. Lean checks it.
import Derived.Test.YtjkdheebgmnpmaaX0
import Derived.Test.YtjkdheebgmnpmaaX2
namespace Go.Proofs.Ytjkdheebgmnpmaa.X
open Go.RowKit Go.Proofs.YtjkdheebgmnpmaaY Go.Proofs.YtjkdheebgmnpmaaW.PrintWords Go.Proofs.YtjkdheebgmnpmaaW.PrintLast Go.Proofs.YtjkdheebgmnpmaaW.PrintMore
attribute [local go_sem] max2_int min2_int max_two min_two max_three min_three max_four min_four   -- for this text's walks alone
set_option linter.unusedVariables false
set_option linter.unusedSimpArgs false

/-! ### jval_Put: function 11 -/
def jval_Put.j0 : Nat → ByteArray → Bool → Int → Int → Int → ByteArray → List (S27) → List ByteArray → Int → Int → Int → ByteArray → List (S27) → List ByteArray → Option (Int × Int × Int × ByteArray × (List (S27)) × List ByteArray)
  | 0, _, _, _, _, _, _, _, _, _, _, _, _, _, _ => none
  | k + 1, x1, x23, x112000, x112001, x112002, x112003, x112004, x112005, x113000, x113001, x113002, x113003, x113004, x113005 => if x23 = true then (some (x112000, x112001, x112002, x112003, x112004, x112005)) else ((jval_place.f k x112005 x1).bind fun bt114 => (if bt114.2 = true then ((some (([] : List ByteArray) : List ByteArray)).bind fun y116 => (if 0 ≤ bt114.1 then (if bt114.1 ≤ (x112005.length : Int) then ((some (x112005.take (bt114.1 : Int).toNat : List ByteArray)).bind fun y119 => (if y116.length + y119.length < 8796093022208 then ((some (y116 ++ y119 : List ByteArray)).bind fun y124 => ((some (([x1] : List ByteArray) : List ByteArray)).bind fun y127 => (if y124.length + y127.length < 8796093022208 then ((some (y124 ++ y127 : List ByteArray)).bind fun y130 => (if 0 ≤ (wrap64 (bt114.1 + 1)) then (if (wrap64 (bt114.1 + 1)) ≤ (x112005.length : Int) then ((some (x112005.drop ((wrap64 (bt114.1 + 1)) : Int).toNat : List ByteArray)).bind fun y133 => (if y130.length + y133.length < 8796093022208 then ((some (([] : List (S27)) : List (S27))).bind fun y141 => (if bt114.1 ≤ (x112004.length : Int) then ((some (x112004.take (bt114.1 : Int).toNat : List (S27))).bind fun y144 => (if y141.length + y144.length < 1599289640401 then ((some (y141 ++ y144 : List (S27))).bind fun y149 => ((some (([(⟨x113000, (⟨x113001, x113002⟩ : S23), x113003, x113004, x113005⟩ : S27)] : List (S27)) : List (S27))).bind fun y152 => (if y149.length + y152.length < 1599289640401 then ((some (y149 ++ y152 : List (S27))).bind fun y155 => (if (wrap64 (bt114.1 + 1)) ≤ (x112004.length : Int) then ((some (x112004.drop ((wrap64 (bt114.1 + 1)) : Int).toNat : List (S27))).bind fun y158 => (if y155.length + y158.length < 1599289640401 then (some (6, 0, 0, (⟨#[]⟩ : ByteArray), (y155 ++ y158), (y130 ++ y133))) else (none))) else (none))) else (none)))) else (none))) else (none))) else (none))) else (none)) else (none))) else (none)))) else (none))) else (none)) else (none))) else ((some (([] : List ByteArray) : List ByteArray)).bind fun y166 => (if 0 ≤ bt114.1 then (if bt114.1 ≤ (x112005.length : Int) then ((some (x112005.take (bt114.1 : Int).toNat : List ByteArray)).bind fun y169 => (if y166.length + y169.length < 8796093022208 then ((some (y166 ++ y169 : List ByteArray)).bind fun y174 => ((some (([x1] : List ByteArray) : List ByteArray)).bind fun y177 => (if y174.length + y177.length < 8796093022208 then ((some (y174 ++ y177 : List ByteArray)).bind fun y180 => ((some (x112005.drop (bt114.1 : Int).toNat : List ByteArray)).bind fun y183 => (if y180.length + y183.length < 8796093022208 then ((some (([] : List (S27)) : List (S27))).bind fun y191 => (if bt114.1 ≤ (x112004.length : Int) then ((some (x112004.take (bt114.1 : Int).toNat : List (S27))).bind fun y194 => (if y191.length + y194.length < 1599289640401 then ((some (y191 ++ y194 : List (S27))).bind fun y199 => ((some (([(⟨x113000, (⟨x113001, x113002⟩ : S23), x113003, x113004, x113005⟩ : S27)] : List (S27)) : List (S27))).bind fun y202 => (if y199.length + y202.length < 1599289640401 then ((some (y199 ++ y202 : List (S27))).bind fun y205 => ((some (x112004.drop (bt114.1 : Int).toNat : List (S27))).bind fun y208 => (if y205.length + y208.length < 1599289640401 then (some (6, 0, 0, (⟨#[]⟩ : ByteArray), (y205 ++ y208), (y180 ++ y183))) else (none)))) else (none)))) else (none))) else (none))) else (none)))) else (none)))) else (none))) else (none)) else (none)))))
def jval_Put.f (k : Nat) (a0_0 : Int) (a0_1 : Int) (a0_2 : Int) (a0_3 : ByteArray) (l0_4 : List (S27)) (l0_5 : List ByteArray) (a1 : ByteArray) (a2_0 : Int) (a2_1 : Int) (a2_2 : Int) (a2_3 : ByteArray) (l2_4 : List (S27)) (l2_5 : List ByteArray) : Option (Int × Int × Int × ByteArray × (List (S27)) × List ByteArray) := if a0_0 = 6 then (jval_Put.j0 k a1 ((l0_5.length : Int) != (l0_4.length : Int)) a0_0 a0_1 a0_2 a0_3 l0_4 l0_5 a2_0 a2_1 a2_2 a2_3 l2_4 l2_5) else (jval_Put.j0 k a1 true a0_0 a0_1 a0_2 a0_3 l0_4 l0_5 a2_0 a2_1 a2_2 a2_3 l2_4 l2_5)
theorem jval_Put.mono_l : ∀ k, (∀ y0 y1 y2 y3 y4 y5 y6 y7 y8 y9 y10 y11 y12 y13, LeO (jval_Put.j0 k y0 y1 y2 y3 y4 y5 y6 y7 y8 y9 y10 y11 y12 y13) (jval_Put.j0 (k + 1) y0 y1 y2 y3 y4 y5 y6 y7 y8 y9 y10 y11 y12 y13))
  | 0 => fun _ _ _ _ _ _ _ _ _ _ _ _ _ _ r h => by simp [jval_Put.j0] at h
  | k + 1 => by
    have ih0 := jval_Put.mono_l k
    · intro y0 y1 y2 y3 y4 y5 y6 y7 y8 y9 y10 y11 y12 y13
      unfold jval_Put.j0
      repeat' first
      | (with_reducible exact ih0 _ _ _ _ _ _ _ _ _ _ _ _ _ _)
      | (with_reducible exact jval_place.mono _ _ _)
      | (with_reducible exact LeO.refl _)
      | (with_reducible exact LeO.none _)
      | (with_reducible refine LeO.ite ?_ ?_)
      | (with_reducible refine LeO.bind ?_ (fun _ => ?_))
      | exact ih0 _ _ _ _ _ _ _ _ _ _ _ _ _ _
      | exact jval_place.mono _ _ _
      | exact LeO.none _
      | refine LeO.ite ?_ ?_
      | refine LeO.bind ?_ (fun _ => ?_)
theorem jval_Put.mono : ∀ a0 a1 a2 a3 a4 a5 a6 a7 a8 a9 a10 a11 a12 k, LeO (jval_Put.f k a0 a1 a2 a3 a4 a5 a6 a7 a8 a9 a10 a11 a12) (jval_Put.f (k + 1) a0 a1 a2 a3 a4 a5 a6 a7 a8 a9 a10 a11 a12) := by
  intro a0 a1 a2 a3 a4 a5 a6 a7 a8 a9 a10 a11 a12 k
  have ih0 := jval_Put.mono_l k
  unfold jval_Put.f
  repeat' first
      | (with_reducible exact ih0 _ _ _ _ _ _ _ _ _ _ _ _ _ _)
      | (with_reducible exact jval_place.mono _ _ _)
      | (with_reducible exact LeO.refl _)
      | (with_reducible exact LeO.none _)
      | (with_reducible refine LeO.ite ?_ ?_)
      | (with_reducible refine LeO.bind ?_ (fun _ => ?_))
      | exact ih0 _ _ _ _ _ _ _ _ _ _ _ _ _ _
      | exact jval_place.mono _ _ _
      | exact LeO.none _
      | refine LeO.ite ?_ ?_
      | refine LeO.bind ?_ (fun _ => ?_)
def jval_Put.T7 : Bool × List (List Nat × List Nat) := (true, [([], []), ([], []), ([1], [1]), ([], []), ([2, 3], [2, 3]), ([0, 4], [0, 4]), ([], []), ([6], [6]), ([5, 7, 5], [5, 7]), ([], []), ([9], [9]), ([], []), ([10, 11], [10, 11]), ([8, 12, 8], [8, 12]), ([13, 13, 0, 1, 2, 3, 4, 5, 6, 7, 8, 9, 10, 11, 12, 13], [13])])
def jval_Put.B7 : List Nat := [0, 0, 2, 0, 14, 31, 0, 64, 255, 0, 512, 0, 3584, 8191, 16383]
theorem jval_Put.tab7 : rtab .any (opsOf Try.f11 7) = jval_Put.T7 := by kernel_rfl
theorem jval_Put.bits7 : waitsOk jval_Put.T7.2 jval_Put.B7 = true := by kernel_rfl
def jval_Put.T8 : Bool × List (List Nat × List Nat) := (true, [([], []), ([], []), ([1], [1]), ([], []), ([2, 3], [2, 3]), ([0, 4], [0, 4]), ([], []), ([6], [6]), ([5, 7, 5], [5, 7]), ([], []), ([9], [9]), ([], []), ([10, 11], [10, 11]), ([8, 12, 8], [8, 12]), ([13, 13, 0, 1, 2, 3, 4, 5, 6, 7, 8, 9, 10, 11, 12, 13], [13])])
def jval_Put.B8 : List Nat := [0, 0, 2, 0, 14, 31, 0, 64, 255, 0, 512, 0, 3584, 8191, 16383]
theorem jval_Put.tab8 : rtab .any (opsOf Try.f11 8) = jval_Put.T8 := by kernel_rfl
theorem jval_Put.bits8 : waitsOk jval_Put.T8.2 jval_Put.B8 = true := by kernel_rfl
end Go.Proofs.Ytjkdheebgmnpmaa.X
