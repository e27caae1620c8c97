/- How a sign stands within quotes. -/
import Derived.Test.YtjmpjkalmhoomaaSSgn
namespace Go.Ab
set_option linter.unusedVariables false
set_option linter.unusedSimpArgs false
def hexB (c : Int) : UInt8 := ([48, 49, 50, 51, 52, 53, 54, 55, 56, 57, 97, 98, 99, 100, 101, 102] : List UInt8).getD c.toNat 0
/-- A sign, quoted. -/
def quoteB (c : Int) : List UInt8 :=
  if c = 34 then [92, 34] else if c = 92 then [92, 92] else if c = 8 then [92, 98] else if c = 9 then [92, 116] else if c = 10 then [92, 110] else if c = 12 then [92, 102] else if c = 13 then [92, 114]
  else if c < 32 then [92, 117, 48, 48, hexB (c / 16), hexB (c % 16)] else (Utf8.encode c).data.toList
theorem quoted_ok (c : Int) (h0 : 0 ≤ c) : Rt0 N_utf_quoted [.fz (.int .i32 c)] = some ([.fz (.str (qB (quoteB c)))], []) := by
  refine rt_call0 A_utf_quoted rfl rfl 0 ?_
  by_cases h : c < 32
  · have h' : c = 0 ∨ c = 1 ∨ c = 2 ∨ c = 3 ∨ c = 4 ∨ c = 5 ∨ c = 6 ∨ c = 7 ∨ c = 8 ∨ c = 9 ∨ c = 10 ∨ c = 11 ∨ c = 12 ∨ c = 13 ∨ c = 14 ∨ c = 15 ∨ c = 16 ∨ c = 17 ∨ c = 18 ∨ c = 19 ∨ c = 20 ∨ c = 21 ∨ c = 22 ∨ c = 23 ∨ c = 24 ∨ c = 25 ∨ c = 26 ∨ c = 27 ∨ c = 28 ∨ c = 29 ∨ c = 30 ∨ c = 31 := by omega
    rcases h' with rfl | rfl | rfl | rfl | rfl | rfl | rfl | rfl | rfl | rfl | rfl | rfl | rfl | rfl | rfl | rfl | rfl | rfl | rfl | rfl | rfl | rfl | rfl | rfl | rfl | rfl | rfl | rfl | rfl | rfl | rfl | rfl
    all_goals (rw [E_utf_quoted]; first | rfl | exact (by kernel_rfl))
  · rw [E_utf_quoted]
    unfold quoteB
    have e : ∀ n : Int, n < 32 → ¬ (c = n) := fun n hn e => h (by omega)
    by_cases h1 : c = 34
    · subst h1; rfl
    · by_cases h2 : c = 92
      · subst h2; rfl
      · rw [if_neg h1, if_neg h2, if_neg (e 8 (by omega)), if_neg (e 9 (by omega)), if_neg (e 10 (by omega)), if_neg (e 12 (by omega)), if_neg (e 13 (by omega)), if_neg h, qB_self]
        have b1 : (c == 34) = false := by simpa using h1
        have b2 : (c == 92) = false := by simpa using h2
        have b3 : (c == 8) = false := by simpa using e 8 (by omega)
        have b4 : (c == 9) = false := by simpa using e 9 (by omega)
        have b5 : (c == 10) = false := by simpa using e 10 (by omega)
        have b6 : (c == 12) = false := by simpa using e 12 (by omega)
        have b7 : (c == 13) = false := by simpa using e 13 (by omega)
        rw [b1, b2, b3, b4, b5, b6, b7, decide_eq_false h]
        rfl
theorem quoteB_len (c : Int) : (quoteB c).length ≤ 6 := by
  unfold quoteB
  repeat' split
  all_goals first | (simp; done) | skip
  have : ∀ r : Int, (Utf8.encode r).data.toList.length ≤ 4 := fun r => by
    unfold Utf8.encode
    simp only
    repeat' split
    all_goals simp
  have := this c
  omega
end Go.Ab
