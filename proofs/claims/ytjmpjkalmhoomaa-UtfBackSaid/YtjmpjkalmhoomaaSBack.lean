/- What is quoted is unquoted. -/
import Derived.Test.YtjmpjkalmhoomaaSEscL
namespace Go.Ab
set_option linter.unusedVariables false
set_option linter.unusedSimpArgs false
theorem hexB_V {k : Int} (h0 : 0 ≤ k) (h1 : k < 16) : hexV (hexB k) = k := by
  have h : ∀ n : Fin 16, hexV (hexB (n.val : Int)) = (n.val : Int) := by decide +kernel
  have := h ⟨k.toNat, by omega⟩
  simpa only [Int.toNat_of_nonneg h0] using this
theorem all_plain : ∀ (p : List UInt8), (∀ x ∈ p, ¬ x = 34 ∧ ¬ x.toNat < 32 ∧ ¬ x = 92) → ∀ (n : Nat) (r out : List UInt8), allN (n + p.length) (p ++ r) out false = allN n r (out ++ p) false
  | [], _, n, r, out => by simp
  | x :: p, h, n, r, out => by
    obtain ⟨h1, h2, h3⟩ := h x (List.mem_cons_self ..)
    have ih := all_plain p (fun y hy => h y (List.mem_cons_of_mem _ hy)) n r (out ++ [x])
    rw [List.length_cons, ← Nat.add_assoc, List.cons_append]
    simp only [allN]
    rw [if_neg (by rintro (e | e); exact h1 e; exact h2 e), if_neg h3, ih, List.append_assoc]
    rfl
theorem put_big {c : Int} (h0 : 128 ≤ c) (h1 : c ≤ 1114111) : ∀ x ∈ toB (putB c), 128 ≤ x.toNat := by
  intro x hx
  unfold toB at hx
  obtain ⟨e, he, rfl⟩ := List.mem_map.1 hx
  have hr := putB_range (c := c) (by omega) h1 e he
  have : 128 ≤ e := by
    unfold putB at he
    rw [if_neg (by omega)] at he
    split at he
    · simp at he; omega
    · split at he
      · simp at he; omega
      · simp at he; omega
  rw [of_B hr.1 hr.2]; omega
/-- A sign that stands for itself. -/
def selfS (c : Int) : Prop := 32 ≤ c ∧ ¬ c = 34 ∧ ¬ c = 92
theorem put_self {c : Int} (hc : selfS c) (h1 : c ≤ 1114111) : ∀ x ∈ toB (putB c), ¬ x = 34 ∧ ¬ x.toNat < 32 ∧ ¬ x = 92 := by
  obtain ⟨a1, a2, a3⟩ := hc
  by_cases g : 128 ≤ c
  · intro x hx
    have := put_big g h1 x hx
    refine ⟨?_, by omega, ?_⟩
    · rintro rfl; revert this; decide
    · rintro rfl; revert this; decide
  · intro x hx
    have hp : toB (putB c) = [UInt8.ofNat c.toNat] := by unfold putB; rw [if_pos (by omega)]; rfl
    rw [hp] at hx
    simp at hx
    subst hx
    have hb := of_B (e := c) (by omega) (by omega)
    refine ⟨?_, by omega, ?_⟩
    · intro e; rw [e] at hb; revert hb; show (34 : UInt8).toNat = c.toNat → False; have : (34 : UInt8).toNat = 34 := rfl; omega
    · intro e; rw [e] at hb; revert hb; show (92 : UInt8).toNat = c.toNat → False; have : (92 : UInt8).toNat = 92 := rfl; omega
theorem all_quote {c : Int} (h0 : 0 ≤ c) (h1 : c ≤ 1114111) (h2 : ¬ (55296 ≤ c ∧ c < 57344)) : ∃ j, 1 ≤ j ∧ j ≤ (quoteB c).length ∧ ∀ (n : Nat) (r out : List UInt8), allN (n + j) (quoteB c ++ r) out false = allN n r (out ++ toB (putB c)) false := by
  have he : encL c = toB (putB c) := enc_put h0 h1 h2
  have short : ∀ (v : Int) (a : UInt8), c = v → quoteB v = [92, a] → toB (putB v) = [escO.getD (Lib.indexByte escI a).toNat 0] → a ≠ 117 → ¬ Lib.indexByte escI a < 0 → ∃ j, 1 ≤ j ∧ j ≤ (quoteB c).length ∧ ∀ (n : Nat) (r out : List UInt8), allN (n + j) (quoteB c ++ r) out false = allN n r (out ++ toB (putB c)) false := by
    rintro v a rfl e1 e2 e3 e4
    refine ⟨1, Nat.le_refl _, by rw [e1]; simp, ?_⟩
    intro n r out
    rw [e1, e2, List.cons_append, List.cons_append, List.nil_append]
    simp only [allN]
    rw [if_neg (by decide), if_pos trivial]
    have : escL (a :: r) out false = some (r, out ++ [escO.getD (Lib.indexByte escI a).toNat 0], false) := by unfold escL; simp only []; rw [if_neg e3, if_neg e4]
    rw [this]
  by_cases g1 : c = 34
  · exact short 34 34 g1 rfl (by decide +kernel) (by decide) (by decide +kernel)
  by_cases g2 : c = 92
  · exact short 92 92 g2 rfl (by decide +kernel) (by decide) (by decide +kernel)
  by_cases g3 : c = 8
  · exact short 8 98 g3 rfl (by decide +kernel) (by decide) (by decide +kernel)
  by_cases g4 : c = 9
  · exact short 9 116 g4 rfl (by decide +kernel) (by decide) (by decide +kernel)
  by_cases g5 : c = 10
  · exact short 10 110 g5 rfl (by decide +kernel) (by decide) (by decide +kernel)
  by_cases g6 : c = 12
  · exact short 12 102 g6 rfl (by decide +kernel) (by decide) (by decide +kernel)
  by_cases g7 : c = 13
  · exact short 13 114 g7 rfl (by decide +kernel) (by decide) (by decide +kernel)
  by_cases g8 : c < 32
  · have eq : quoteB c = 92 :: 117 :: [48, 48, hexB (c / 16), hexB (c % 16)] := by unfold quoteB; rw [if_neg g1, if_neg g2, if_neg g3, if_neg g4, if_neg g5, if_neg g6, if_neg g7, if_pos g8]
    refine ⟨1, Nat.le_refl _, by rw [eq]; simp, ?_⟩
    intro n r out
    rw [eq, List.cons_append, List.cons_append]
    simp only [allN]
    rw [if_neg (by decide), if_pos trivial]
    have e2 : escL (117 :: ([48, 48, hexB (c / 16), hexB (c % 16)] ++ r)) out false = pairL ([48, 48, hexB (c / 16), hexB (c % 16)] ++ r) out false := by unfold escL; simp only [if_true]
    have a0 : hexV 48 = 0 := by decide +kernel
    have a1 := hexB_V (k := c / 16) (by omega) (by omega)
    have a2 := hexB_V (k := c % 16) (by omega) (by omega)
    have e3 : fourL ([48, 48, hexB (c / 16), hexB (c % 16)] ++ r) = some c := by
      unfold fourL
      rw [if_neg (by simp)]
      show hexN [48, 48, hexB (c / 16), hexB (c % 16)] 0 = some c
      simp only [hexN]
      rw [a0, a1, a2, if_neg (show ¬ (0 : Int) < 0 by omega), if_neg (show ¬ (0 : Int) < 0 by omega), if_neg (show ¬ c / 16 < 0 by omega), if_neg (show ¬ c % 16 < 0 by omega)]
      refine congrArg some ?_
      omega
    have e4 : pairL ([48, 48, hexB (c / 16), hexB (c % 16)] ++ r) out false = some (r, out ++ toB (putB c), false) := by
      unfold pairL
      rw [e3]
      show (if c < 55296 ∨ 57343 < c then _ else _) = _
      rw [if_pos (by omega), he]
      rfl
    rw [e2, e4]
  · have eq : quoteB c = toB (putB c) := by unfold quoteB; rw [if_neg g1, if_neg g2, if_neg g3, if_neg g4, if_neg g5, if_neg g6, if_neg g7, if_neg g8]; exact he
    have hp := @put_len c
    refine ⟨(toB (putB c)).length, hp.1, by rw [eq]; exact Nat.le_refl _, ?_⟩
    intro n r out
    rw [eq]
    exact all_plain _ (put_self ⟨by omega, g1, g2⟩ h1) n r out
theorem all_quotes : ∀ (l : List Int), (∀ c ∈ l, 0 ≤ c ∧ c ≤ 1114111 ∧ ¬ (55296 ≤ c ∧ c < 57344)) → ∀ (n : Nat) (out : List UInt8), (l.flatMap quoteB).length ≤ n → allN n (l.flatMap quoteB) out false = some (out ++ bytesOf' l, false)
  | [], _, n, out, _ => by cases n <;> simp [allN, bytesOf', toB]
  | c :: l, h, n, out, hn => by
    obtain ⟨h0, h1, h2⟩ := h c (List.mem_cons_self ..)
    obtain ⟨j, j1, j2, hj⟩ := all_quote h0 h1 h2
    rw [List.flatMap_cons, List.length_append] at hn
    obtain ⟨m, rfl⟩ : ∃ m, n = m + j := ⟨n - j, by omega⟩
    rw [List.flatMap_cons, hj, all_quotes l (fun d hd => h d (List.mem_cons_of_mem _ hd)) m _ (by omega), bytes_cons, List.append_assoc]
theorem unq_quote {l : List Int} (h : ∀ c ∈ l, 0 ≤ c ∧ c ≤ 1114111 ∧ ¬ (55296 ≤ c ∧ c < 57344)) : unqL (34 :: (l.flatMap quoteB ++ [34])) = (bytesOf' l, 0) := by
  rw [unqL_eq, if_neg (by simp), all_quotes l h _ _ (Nat.le_refl _)]
  simp only [List.nil_append]
  rw [signs_put h, if_neg (by simp)]
theorem quote_low {c : Int} (h0 : 0 ≤ c) (h1 : c ≤ 1114111) (h2 : ¬ (55296 ≤ c ∧ c < 57344)) : ∀ x ∈ quoteB c, ¬ x.toNat < 32 := by
  by_cases g : c < 35
  · have h : ∀ n : Fin 35, ((quoteB (n.val : Int)).all fun x => decide (¬ x.toNat < 32)) = true := by decide +kernel
    have := h ⟨c.toNat, by omega⟩
    simp only [Int.toNat_of_nonneg h0] at this
    intro x hx
    exact of_decide_eq_true (List.all_eq_true.1 this x hx)
  · by_cases g2 : c = 92
    · subst g2
      have h : ((quoteB 92).all fun x => decide (¬ x.toNat < 32)) = true := by decide +kernel
      intro x hx
      exact of_decide_eq_true (List.all_eq_true.1 h x hx)
    · have eq : quoteB c = toB (putB c) := by unfold quoteB; rw [if_neg (by omega), if_neg g2, if_neg (by omega), if_neg (by omega), if_neg (by omega), if_neg (by omega), if_neg (by omega), if_neg (by omega)]; exact enc_put h0 h1 h2
      intro x hx
      rw [eq] at hx
      exact (put_self ⟨by omega, by omega, g2⟩ h1 x hx).2.1
end Go.Ab
