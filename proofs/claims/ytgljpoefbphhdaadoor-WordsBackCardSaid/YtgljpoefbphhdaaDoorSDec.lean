/- What the language itself reads of a text, sign by sign, is what the reference reads. -/
import Derived.Test.YtgljpoefbphhdaaDoorSUtf3
import Derived.Lib.DecodeN
namespace Go.Ab
set_option linter.unusedVariables false
set_option linter.unusedSimpArgs false
def qB (l : List UInt8) : ByteArray := ⟨l.toArray⟩
theorem qB_self (s : ByteArray) : qB s.data.toList = s := by unfold qB; rw [Array.toArray_toList]
theorem get_drop {s : ByteArray} {pos j : Nat} {x : UInt8} (h : (s.data.toList.drop pos)[j]? = some x) : s.get! (pos + j) = x ∧ pos + j < s.size := by
  rw [List.getElem?_drop] at h
  obtain ⟨h1, h2⟩ := List.getElem?_eq_some_iff.1 h
  have hlt : pos + j < s.size := by simpa using h1
  refine ⟨?_, hlt⟩
  have : s.get! (pos + j) = s.data[pos + j]'(by simpa using h1) := by
    simp [ByteArray.get!, getElem!_pos, hlt]
  rw [this, ← h2]; simp
theorem putB_len (c : Int) : (putB c).length = if c < 128 then 1 else if c < 2048 then 2 else if c < 65536 then 3 else 4 := by
  unfold putB
  repeat' split
  all_goals rfl
theorem toB_len (l : List Int) : (toB l).length = l.length := by simp [toB]
theorem sgn_facts {l : List UInt8} {c : Int} {k : Nat} (h : sgn l = some (c, k)) : 0 ≤ c ∧ c ≤ 1114111 ∧ ¬ (55296 ≤ c ∧ c < 57344) ∧ toB (putB c) = l.take k ∧ 1 ≤ k ∧ k ≤ l.length := by
  obtain ⟨h1, h2, h3, h4⟩ := sgn_pos h
  cases l with
  | nil => cases h
  | cons b r =>
    simp only [sgn] at h
    split at h
    · cases h
    · split at h
      · cases h
      · split at h
        · cases h
        · rename_i hq
          cases h
          refine ⟨h3, h4, fun e => hq (.inr (.inl e)), ?_, h1, h2⟩
          exact Classical.byContradiction fun e => hq (.inr (.inr e))
/-- One sign. -/
theorem dec_sgn {s : ByteArray} {pos : Nat} {c : Int} {k : Nat} (h : sgn (s.data.toList.drop pos) = some (c, k)) : Utf8.decode s pos = (c.toNat, k) := by
  obtain ⟨hc0, hc1, hc2, hp, hk1, hk2⟩ := sgn_facts h
  generalize hl : s.data.toList.drop pos = l at h hp hk2
  have hsl : s.size - pos = l.length := by rw [← hl, List.length_drop, Array.length_toList]; rfl
  have gd : ∀ j x, l[j]? = some x → s.get! (pos + j) = x := fun j x hj => (get_drop (by rw [hl]; exact hj)).1
  have hlen := congrArg List.length hp
  rw [toB_len, putB_len, List.length_take, Nat.min_eq_left hk2] at hlen
  cases l with
  | nil => cases h
  | cons b r =>
    have g0 := gd 0 b rfl
    rw [Lib.decode_at, hsl, show s.get! pos = b from g0]
    have hb := u8_le b
    simp only [sgn] at h
    split at h
    · cases h
    · rename_i hbad
      split at h
      · cases h
      · rename_i v hv
        split at h
        · cases h
        · cases h
          by_cases c1 : b.toNat < 128
          · have hN : headN b.toNat = 1 := by unfold headN; rw [if_neg (by omega), if_neg (by omega), if_neg (by omega)]
            have hC : headC b.toNat = b.toNat := by unfold headC; rw [if_neg (by omega), if_neg (by omega), if_neg (by omega)]
            rw [hN, hC] at hv
            rw [hN]
            simp only [Nat.sub_self, cont] at hv
            cases hv
            simp [Lib.decodeN, c1]
          · by_cases c2 : b.toNat < 224
            · have hN : headN b.toNat = 2 := by unfold headN; rw [if_neg (by omega), if_neg (by omega), if_pos (by omega)]
              have hC : headC b.toNat = b.toNat - 192 := by unfold headC; rw [if_neg (by omega), if_neg (by omega), if_pos (by omega)]
              rw [hN, hC] at hv
              rw [hN] at hlen ⊢
              cases r with
              | nil => simp only [cont] at hv; cases hv
              | cons d r =>
                have g1 := gd 1 d rfl
                have hd := u8_le d
                simp only [cont] at hv
                split at hv
                · rename_i hd1
                  cases hv
                  rw [g1]
                  have hr : 1 < (b :: d :: r).length := by simp
                  have q : 128 ≤ b.toNat % 32 * 64 + d.toNat % 64 := by
                    have : ¬ (64 * ((b.toNat : Int) - 192) + (d.toNat : Int) - 128 < 128) := fun e => by rw [if_pos e] at hlen; omega
                    omega
                  unfold Lib.decodeN
                  rw [if_neg c1, if_pos ⟨by omega, hr, by omega⟩, if_pos q]
                  congr 1
                  omega
                · cases hv
            · by_cases c3 : b.toNat < 240
              · have hN : headN b.toNat = 3 := by unfold headN; rw [if_neg (by omega), if_pos (by omega)]
                have hC : headC b.toNat = b.toNat - 224 := by unfold headC; rw [if_neg (by omega), if_pos (by omega)]
                rw [hN, hC] at hv
                rw [hN] at hlen ⊢
                cases r with
                | nil => simp only [cont] at hv; cases hv
                | cons d r => cases r with
                  | nil => simp only [cont] at hv; split at hv <;> cases hv
                  | cons f r =>
                    have g1 := gd 1 d rfl
                    have g2 := gd 2 f rfl
                    have hd := u8_le d
                    have hf := u8_le f
                    simp only [cont] at hv
                    split at hv
                    · split at hv
                      · rename_i hd1 hf1
                        cases hv
                        rw [g1, g2]
                        have hr : 1 < (b :: d :: f :: r).length := by simp
                        have hr2 : 2 < (b :: d :: f :: r).length := by simp
                        have q : ¬ (64 * (64 * ((b.toNat : Int) - 224) + (d.toNat : Int) - 128) + (f.toNat : Int) - 128 < 2048) := fun e => by
                          split at hlen
                          · omega
                          · first | omega | (rw [if_pos e] at hlen; omega)
                        unfold Lib.decodeN
                        rw [if_neg c1, if_neg (by omega), if_pos ⟨by omega, ⟨hr, by omega⟩, hr2, by omega⟩, if_pos (by omega)]
                        congr 1
                        omega
                      · cases hv
                    · cases hv
              · have hN : headN b.toNat = 4 := by unfold headN; rw [if_pos (by omega)]
                have hC : headC b.toNat = b.toNat - 240 := by unfold headC; rw [if_pos (by omega)]
                rw [hN, hC] at hv
                rw [hN] at hlen ⊢
                cases r with
                | nil => simp only [cont] at hv; cases hv
                | cons d r => cases r with
                  | nil => simp only [cont] at hv; split at hv <;> cases hv
                  | cons f r => cases r with
                    | nil => simp only [cont] at hv; split at hv <;> (try split at hv) <;> cases hv
                    | cons m r =>
                      have g1 := gd 1 d rfl
                      have g2 := gd 2 f rfl
                      have g3 := gd 3 m rfl
                      have hd := u8_le d
                      have hf := u8_le f
                      have hm := u8_le m
                      simp only [cont] at hv
                      split at hv
                      · split at hv
                        · split at hv
                          · rename_i hd1 hf1 hm1
                            cases hv
                            rw [g1, g2, g3]
                            have hr : 1 < (b :: d :: f :: m :: r).length := by simp
                            have hr2 : 2 < (b :: d :: f :: m :: r).length := by simp
                            have hr3 : 3 < (b :: d :: f :: m :: r).length := by simp
                            have q : ¬ (64 * (64 * (64 * ((b.toNat : Int) - 240) + (d.toNat : Int) - 128) + (f.toNat : Int) - 128) + (m.toNat : Int) - 128 < 65536) := fun e => by
                              split at hlen
                              · omega
                              · split at hlen
                                · omega
                                · first | omega | (rw [if_pos e] at hlen; omega)
                            unfold Lib.decodeN
                            rw [if_neg c1, if_neg (by omega), if_neg (by omega), if_pos ⟨by omega, ⟨hr, by omega⟩, ⟨hr2, by omega⟩, hr3, by omega⟩, if_pos (by omega)]
                            congr 1
                            omega
                          · cases hv
                        · cases hv
                      · cases hv
/-- The signs from a place on. -/
inductive SgAt (s : ByteArray) : Nat → List Int → Prop
  | nil (pos : Nat) (h : s.size ≤ pos) : SgAt s pos []
  | cons (pos k : Nat) (c : Int) (cs : List Int) (hd : Utf8.decode s pos = (c.toNat, k)) (h : pos < s.size) (hk : 1 ≤ k) (hk2 : pos + k ≤ s.size) (h0 : 0 ≤ c) (h1 : c ≤ 1114111) (h2 : ¬ (55296 ≤ c ∧ c < 57344)) (hb : toB (putB c) = (s.data.toList.drop pos).take k) (r : SgAt s (pos + k) cs) : SgAt s pos (c :: cs)
theorem sgAt_of {s : ByteArray} : ∀ (n pos : Nat) (cs : List Int), signsN n (s.data.toList.drop pos) = some cs → SgAt s pos cs := by
  have hsz : s.data.toList.length = s.size := bytes_size s
  intro n
  induction n with
  | zero =>
    intro pos cs h
    cases hl : s.data.toList.drop pos with
    | nil =>
      rw [hl] at h
      cases h
      exact .nil pos (by have := List.drop_eq_nil_iff.1 hl; omega)
    | cons b r => rw [hl] at h; cases h
  | succ n ih =>
    intro pos cs h
    cases hl : s.data.toList.drop pos with
    | nil =>
      rw [hl] at h
      cases h
      exact .nil pos (by have := List.drop_eq_nil_iff.1 hl; omega)
    | cons b r =>
      have hp : pos < s.size := by
        have := congrArg List.length hl
        rw [List.length_drop, hsz] at this
        simp at this; omega
      rw [hl] at h
      simp only [signsN] at h
      cases hs : sgn (b :: r) with
      | none => rw [hs] at h; cases h
      | some p =>
        obtain ⟨c, k⟩ := p
        rw [hs] at h
        simp only at h
        obtain ⟨ds, hds, rfl⟩ := Option.map_eq_some_iff.1 h
        rw [← hl] at hs hds
        obtain ⟨f0, f1, f2, f3, f4, f5⟩ := sgn_facts hs
        rw [List.drop_drop] at hds
        rw [List.length_drop, hsz] at f5
        exact .cons pos k c ds (dec_sgn hs) hp f4 (by omega) f0 f1 f2 f3 (ih _ _ hds)
theorem sgAt_start {s : ByteArray} {cs : List Int} (h : signsL s.data.toList = some cs) : SgAt s 0 cs := sgAt_of _ 0 cs (by simpa [signsL] using h)
theorem SgAt.len {s : ByteArray} {pos : Nat} {cs : List Int} (h : SgAt s pos cs) (hp : pos ≤ s.size) : cs.length + pos ≤ s.size := by
  induction h with
  | nil pos h => simp; omega
  | cons pos k c cs hd h hk hk2 h0 h1 h2 hb r ih => have := ih (by omega); simp; omega
theorem SgAt.bytes {s : ByteArray} {pos : Nat} {cs : List Int} (h : SgAt s pos cs) : s.data.toList.drop pos = toB (cs.flatMap putB) := by
  induction h with
  | nil pos h => rw [List.drop_eq_nil_of_le (by rw [bytes_size]; exact h)]; rfl
  | cons pos k c cs hd h hk hk2 h0 h1 h2 hb r ih =>
    rw [← List.take_append_drop k (s.data.toList.drop pos), ← hb, List.drop_drop, ih]
    simp [toB, List.flatMap_cons]
end Go.Ab
