/- Signs put together are read as these signs. -/
import Derived.Test.YtjmpjkalmhoomaaSSgn
namespace Go.Ab
set_option linter.unusedVariables false
set_option linter.unusedSimpArgs false
theorem of_B {e : Int} (h0 : 0 ≤ e) (h1 : e ≤ 255) : (UInt8.ofNat e.toNat).toNat = e.toNat := UInt8.toNat_ofNat_of_lt' (show e.toNat < 256 by omega)
theorem sgn_put {c : Int} (h0 : 0 ≤ c) (h1 : c ≤ 1114111) (h2 : ¬ (55296 ≤ c ∧ c < 57344)) (r : List UInt8) : sgn (toB (putB c) ++ r) = some (c, (toB (putB c)).length) := by
  have hput : toB (putB c) = toB (putB c) := rfl
  have go : ∀ (b : UInt8) (q : List UInt8) (N : Nat), toB (putB c) = b :: q → headN b.toNat = N → b.toNat < 248 → ¬ (128 ≤ b.toNat ∧ b.toNat < 192) → q.length + 1 = N → cont (N - 1) (headC b.toNat) (q ++ r) = some c → sgn (toB (putB c) ++ r) = some (c, (toB (putB c)).length) := by
    intro b q N e1 e2 e3 e4 e5 e6
    rw [e1, List.cons_append]
    simp only [sgn]
    rw [if_neg (by rw [e2, List.length_append]; omega), e2, e6]
    simp only
    rw [if_neg]
    · rw [← e5]; rfl
    · rintro (h | h | h)
      · omega
      · exact h2 h
      · apply h
        rw [e1, ← e5, ← List.cons_append]
        exact (List.take_left' (by simp)).symm
  have hN : ∀ b : Nat, headN b = if 240 ≤ b ∧ b < 248 then 4 else if 224 ≤ b then 3 else if 192 ≤ b then 2 else 1 := fun _ => rfl
  have hC : ∀ b : Nat, headC b = if 240 ≤ b ∧ b < 248 then (b : Int) - 240 else if 224 ≤ b then (b : Int) - 224 else if 192 ≤ b then (b : Int) - 192 else b := fun _ => rfl
  have hp : putB c = if c < 128 then [c] else if c < 2048 then [192 + c / 64, 128 + c % 64] else if c < 65536 then [224 + c / 4096, 128 + c / 64 % 64, 128 + c % 64] else [240 + c / 262144, 128 + c / 4096 % 64, 128 + c / 64 % 64, 128 + c % 64] := rfl
  by_cases g1 : c < 128
  · rw [if_pos g1] at hp
    have b1 := of_B (e := c) (by omega) (by omega)
    refine go (UInt8.ofNat c.toNat) [] 1 (by rw [hp]; rfl) ?_ ?_ ?_ rfl ?_
    · rw [b1, hN, if_neg (by omega), if_neg (by omega), if_neg (by omega)]
    · rw [b1]; omega
    · rw [b1]; omega
    · rw [b1, hC, if_neg (by omega), if_neg (by omega), if_neg (by omega)]
      show some ((c.toNat : Nat) : Int) = some c
      rw [Int.toNat_of_nonneg h0]
  · rw [if_neg g1] at hp
    by_cases g2 : c < 2048
    · rw [if_pos g2] at hp
      have b1 := of_B (e := 192 + c / 64) (by omega) (by omega)
      have b2 := of_B (e := 128 + c % 64) (by omega) (by omega)
      refine go (UInt8.ofNat (192 + c / 64).toNat) [UInt8.ofNat (128 + c % 64).toNat] 2 (by rw [hp]; rfl) ?_ ?_ ?_ rfl ?_
      · rw [b1, hN, if_neg (by omega), if_neg (by omega), if_pos (by omega)]
      · rw [b1]; omega
      · rw [b1]; omega
      · rw [b1, hC, if_neg (by omega), if_neg (by omega), if_pos (by omega)]
        simp only [List.cons_append, cont, Nat.reduceSub]
        rw [b2, if_pos (by omega)]
        simp only [cont, Option.some.injEq]
        omega
    · rw [if_neg g2] at hp
      by_cases g3 : c < 65536
      · rw [if_pos g3] at hp
        have b1 := of_B (e := 224 + c / 4096) (by omega) (by omega)
        have b2 := of_B (e := 128 + c / 64 % 64) (by omega) (by omega)
        have b3 := of_B (e := 128 + c % 64) (by omega) (by omega)
        refine go (UInt8.ofNat (224 + c / 4096).toNat) [UInt8.ofNat (128 + c / 64 % 64).toNat, UInt8.ofNat (128 + c % 64).toNat] 3 (by rw [hp]; rfl) ?_ ?_ ?_ rfl ?_
        · rw [b1, hN, if_neg (by omega), if_pos (by omega)]
        · rw [b1]; omega
        · rw [b1]; omega
        · rw [b1, hC, if_neg (by omega), if_pos (by omega)]
          simp only [List.cons_append, cont, Nat.reduceSub]
          rw [b2, if_pos (by omega), b3, if_pos (by omega)]
          simp only [Option.some.injEq]
          omega
      · rw [if_neg g3] at hp
        have b1 := of_B (e := 240 + c / 262144) (by omega) (by omega)
        have b2 := of_B (e := 128 + c / 4096 % 64) (by omega) (by omega)
        have b3 := of_B (e := 128 + c / 64 % 64) (by omega) (by omega)
        have b4 := of_B (e := 128 + c % 64) (by omega) (by omega)
        refine go (UInt8.ofNat (240 + c / 262144).toNat) [UInt8.ofNat (128 + c / 4096 % 64).toNat, UInt8.ofNat (128 + c / 64 % 64).toNat, UInt8.ofNat (128 + c % 64).toNat] 4 (by rw [hp]; rfl) ?_ ?_ ?_ rfl ?_
        · rw [b1, hN, if_pos (by omega)]
        · rw [b1]; omega
        · rw [b1]; omega
        · rw [b1, hC, if_pos (by omega)]
          simp only [List.cons_append, cont, Nat.reduceSub]
          rw [b2, if_pos (by omega), b3, if_pos (by omega), b4, if_pos (by omega)]
          simp only [Option.some.injEq]
          omega
def bytesOf' (l : List Int) : List UInt8 := toB (l.flatMap putB)
theorem bytes_cons (c : Int) (l : List Int) : bytesOf' (c :: l) = toB (putB c) ++ bytesOf' l := by simp [bytesOf', toB]
theorem signsN_put : ∀ (l : List Int), (∀ c ∈ l, 0 ≤ c ∧ c ≤ 1114111 ∧ ¬ (55296 ≤ c ∧ c < 57344)) → ∀ n, l.length ≤ n → signsN n (bytesOf' l) = some l
  | [], _, n, _ => by cases n <;> rfl
  | c :: l, h, n, hn => by
    obtain ⟨n, rfl⟩ : ∃ q, n = q + 1 := ⟨n - 1, by simp at hn; omega⟩
    obtain ⟨h0, h1, h2⟩ := h c (List.mem_cons_self ..)
    have hs := sgn_put h0 h1 h2 (bytesOf' l)
    have hl : 1 ≤ (toB (putB c)).length := by
      rw [toB_len, putB_len]
      repeat' split
      all_goals omega
    have ih := signsN_put l (fun d hd => h d (List.mem_cons_of_mem _ hd)) n (by simp at hn; omega)
    rw [bytes_cons]
    cases hq : toB (putB c) with
    | nil => rw [hq] at hl; simp at hl
    | cons b q =>
      rw [hq] at hs
      rw [List.cons_append] at hs ⊢
      simp only [signsN]
      rw [hs]
      simp only
      rw [← List.cons_append, List.drop_left' rfl, ih]
      rfl
theorem signs_put {l : List Int} (h : ∀ c ∈ l, 0 ≤ c ∧ c ≤ 1114111 ∧ ¬ (55296 ≤ c ∧ c < 57344)) : signsL (bytesOf' l) = some l := by
  refine signsN_put l h _ ?_
  induction l with
  | nil => simp
  | cons c l ih =>
    have := ih fun d hd => h d (List.mem_cons_of_mem _ hd)
    have hl : 1 ≤ (toB (putB c)).length := by
      rw [toB_len, putB_len]
      repeat' split
      all_goals omega
    rw [bytes_cons, List.length_append, List.length_cons]; omega
end Go.Ab
