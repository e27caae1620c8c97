/- The signs of a text, as the reference reads them: all of them. -/
import Derived.Test.YtdpfpdejipkffaaSUtf0
namespace Go.Ab
set_option linter.unusedVariables false
set_option linter.unusedSimpArgs false
set_option linter.unusedSectionVars false

theorem sgn_pos {l : List UInt8} {c : Int} {k : Nat} (h : sgn l = some (c, k)) : 1 ≤ k ∧ k ≤ l.length ∧ 0 ≤ c ∧ c ≤ 1114111 := by
  cases l with
  | nil => cases h
  | cons b r =>
    simp only [sgn] at h
    split at h
    · cases h
    · rename_i h1
      have hb : b.toNat < 248 := Nat.lt_of_not_le fun e => h1 (.inl e)
      have hN := headN_le b.toNat
      split at h
      · cases h
      · rename_i c' hc
        have := cont_nonneg _ _ _ _ (headC_le hb).1 hc
        split at h
        · cases h
        · rename_i h2
          simp only [Option.some.injEq, Prod.mk.injEq] at h
          obtain ⟨rfl, rfl⟩ := h
          refine ⟨hN.1, ?_, this, Int.not_lt.1 fun e => h2 (.inl e)⟩
          have : ¬ (r.length + 1 < headN b.toNat) := fun e => h1 (.inr (.inr e))
          simp only [List.length_cons]; omega

section
variable (s : ByteArray) (hs : s.size ≤ 8796093022208)
include hs

theorem signs_loop (K : Nat) (hK : 5 ≤ K) : ∀ (n f i : Nat) (acc : List Int), n < f → s.data.toList.length ≤ i + n → acc.length ≤ i → i ≤ s.data.toList.length →
    onL (L_ref03_Signs_2_1 Rt K true f s i (acc.map (.int .i64))) (K_ref03_Signs_2 Rt K true) = (match signsN n (s.data.toList.drop i) with
      | some cs => some ([.fz (.sl ((acc ++ cs).map (.int .i64))), .fz (.bool true)], [])
      | none => some ([.fz (.sl []), .fz (.bool false)], [])) := by
  have hbs := bytes_size s
  intro n
  induction n with
  | zero =>
    intro f i acc hf hn ha hi
    obtain ⟨f, rfl⟩ : ∃ m, f = m + 1 := ⟨f - 1, by omega⟩
    have e1 : decide ((i : Int) < (s.size : Int)) = false := by simp; omega
    rw [L_ref03_Signs_2_1_eq, List.drop_eq_nil_of_le (show s.data.toList.length ≤ i by omega)]
    simp only [e1, ifB_false, onL_some, X_ref03_Signs_2_2_eq, signsN, List.append_nil]
  | succ n ih =>
    intro f i acc hf hn ha hi
    obtain ⟨f, rfl⟩ : ∃ m, f = m + 1 := ⟨f - 1, by omega⟩
    by_cases hl : i < s.data.toList.length
    · rw [signs_round1 s hs K f hK acc (by omega) i hl]
      rw [drop_cons hl]
      simp only [signsN]
      rw [← drop_cons hl]
      cases hg : sgn (s.data.toList.drop i) with
      | none => simp only [onL_some, X_ref03_Signs_2_3_eq]
      | some p =>
        obtain ⟨c, k⟩ := p
        obtain ⟨k1, k2, c0, c1⟩ := sgn_pos hg
        rw [List.length_drop] at k2
        have := ih f (i + k) (acc ++ [c]) (by omega) (by omega) (by simp; omega) (by omega)
        simp only []
        rw [this, List.drop_drop]
        cases signsN n (s.data.toList.drop (i + k)) with
        | none => rfl
        | some cs => simp
    · have e1 : decide ((i : Int) < (s.size : Int)) = false := by simp; omega
      rw [L_ref03_Signs_2_1_eq, List.drop_eq_nil_of_le (show s.data.toList.length ≤ i by omega)]
      simp only [e1, ifB_false, onL_some, X_ref03_Signs_2_2_eq, signsN, List.append_nil]

/-- The reference's signs of a text. -/
theorem signs_ok : Rt N_ref03_Signs [.fz (.str s)] = (match signsL s.data.toList with
      | some cs => some ([.fz (.sl (cs.map (.int .i64))), .fz (.bool true)], [])
      | none => some ([.fz (.sl []), .fz (.bool false)], [])) := by
  have hbs := bytes_size s
  have key : onL (L_ref03_Signs_2_0 Rt (s.data.toList.length + 6) true (s.data.toList.length + 6) s ((0 : Nat) : Int)) (K_ref03_Signs_2 Rt (s.data.toList.length + 6) true) = (match signsL s.data.toList with
      | some cs => some ([.fz (.sl (cs.map (.int .i64))), .fz (.bool true)], [])
      | none => some ([.fz (.sl []), .fz (.bool false)], [])) := by
    by_cases hl : 0 < s.data.toList.length
    · rw [signs_round0 s hs _ (s.data.toList.length + 5) (by omega) (by omega) 0 hl, List.drop_zero]
      obtain ⟨m, hm⟩ : ∃ m, s.data.toList.length = m + 1 := ⟨_, (Nat.sub_one_add_one (by omega)).symm⟩
      have hcons : s.data.toList = s.data.toList[0] :: s.data.toList.drop 1 := by have := drop_cons hl; rwa [List.drop_zero] at this
      have hu : signsL s.data.toList = (match sgn s.data.toList with
          | none => none
          | some (c, k) => (signsN m (s.data.toList.drop k)).map (c :: ·)) := by
        unfold signsL
        rw [hm, hcons]
        simp only [signsN]
        cases sgn (s.data.toList[0] :: s.data.toList.drop 1) <;> rfl
      rw [hu]
      cases hg : sgn s.data.toList with
      | none => simp only [onL_some, X_ref03_Signs_2_1_eq]
      | some p =>
        obtain ⟨c, k⟩ := p
        obtain ⟨k1, k2, c0, c1⟩ := sgn_pos hg
        have := signs_loop s hs (s.data.toList.length + 6) (by omega) m (s.data.toList.length + 5) k [c] (by omega) (by omega) (by simp; omega) (by omega)
        simp only [Nat.zero_add]
        rw [show [FV.int .i64 c] = [c].map (FV.int .i64) from rfl, this]
        cases signsN m (s.data.toList.drop k) with
        | none => rfl
        | some cs => rfl
    · have h0 : s.data.toList = [] := List.length_eq_zero_iff.1 (by omega)
      have hz : s.size = 0 := by omega
      have e1 : decide (((0 : Nat) : Int) < (s.size : Int)) = false := by rw [hz]; rfl
      rw [L_ref03_Signs_2_0_eq, h0]
      simp only [e1, ifB_false, onL_some, X_ref03_Signs_2_0_eq, signsL, signsN]
      rfl
  have hE := E_ref03_Signs Rt (s.data.toList.length + 6) true s
  rw [show ((0 : Nat) : Int) = 0 from rfl] at key
  rw [key] at hE
  cases hq : signsL s.data.toList with
  | none => rw [hq] at hE; exact rt_call A_ref03_Signs rfl rfl (s.data.toList.length + 6) hE
  | some cs => rw [hq] at hE; exact rt_call A_ref03_Signs rfl rfl (s.data.toList.length + 6) hE
end
end Go.Ab
