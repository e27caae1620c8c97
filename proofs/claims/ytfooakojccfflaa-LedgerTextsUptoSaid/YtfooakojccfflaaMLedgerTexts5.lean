/- The row LedgerTexts, part 5 of 6: texts written for this work, merged by a program of the session. No condition. -/
import Derived.Lib.DecodeN
import Derived.Shelf.Strings.Builder1
import Derived.Shelf.Strings.BuilderF
import Derived.Shelf.Strings.BuilderK
import Derived.WalkKit
import Derived.BigCall
import Derived.Lib.RuneCount
import Derived.Lib.QuoteLoop
import Derived.BigQuiet
import Derived.Handy
import Derived.StillTailTactics
import Derived.Deep.RegionWith
import Derived.Test.YtfooakojccfflaaProg
import Derived.Test.YtfooakojccfflaaMLedgerTexts4
set_option linter.unusedVariables false
set_option linter.unusedSimpArgs false
set_option linter.unusedSectionVars false
section
namespace Go.Ab
def qB (l : List UInt8) : ByteArray := ⟨l.toArray⟩
theorem qB_self (s : ByteArray) : qB s.data.toList = s := by unfold qB; rw [Array.toArray_toList]
theorem get_drop {s : ByteArray} {pos j : Nat} {x : UInt8} (h : (s.data.toList.drop pos)[j]? = some x) : s.get! (pos + j) = x ∧ pos + j < s.size := by
  rw [List.getElem?_drop] at h
  obtain ⟨h1, h2⟩ := List.getElem?_eq_some_iff.1 h
  have hlt : pos + j < s.size := by simpa using h1
  refine ⟨?_, hlt⟩
  have : s.get! (pos + j) = s.data[pos + j]'(by simpa using h1) := by
    simp [ByteArray.get!, getElem!_pos, hlt]
  rw [this, ← h2]; simp
theorem putB_len (c : Int) : (putB c).length = if c < 128 then 1 else if c < 2048 then 2 else if c < 65536 then 3 else 4 := by
  unfold putB
  repeat' split
  all_goals rfl
theorem toB_len (l : List Int) : (toB l).length = l.length := by simp [toB]
theorem sgn_facts {l : List UInt8} {c : Int} {k : Nat} (h : sgn l = some (c, k)) : 0 ≤ c ∧ c ≤ 1114111 ∧ ¬ (55296 ≤ c ∧ c < 57344) ∧ toB (putB c) = l.take k ∧ 1 ≤ k ∧ k ≤ l.length := by
  obtain ⟨h1, h2, h3, h4⟩ := sgn_pos h
  cases l with
  | nil => cases h
  | cons b r =>
    simp only [sgn] at h
    split at h
    · cases h
    · split at h
      · cases h
      · split at h
        · cases h
        · rename_i hq
          cases h
          refine ⟨h3, h4, fun e => hq (.inr (.inl e)), ?_, h1, h2⟩
          exact Classical.byContradiction fun e => hq (.inr (.inr e))
theorem dec_sgn {s : ByteArray} {pos : Nat} {c : Int} {k : Nat} (h : sgn (s.data.toList.drop pos) = some (c, k)) : Utf8.decode s pos = (c.toNat, k) := by
  obtain ⟨hc0, hc1, hc2, hp, hk1, hk2⟩ := sgn_facts h
  generalize hl : s.data.toList.drop pos = l at h hp hk2
  have hsl : s.size - pos = l.length := by rw [← hl, List.length_drop, Array.length_toList]; rfl
  have gd : ∀ j x, l[j]? = some x → s.get! (pos + j) = x := fun j x hj => (get_drop (by rw [hl]; exact hj)).1
  have hlen := congrArg List.length hp
  rw [toB_len, putB_len, List.length_take, Nat.min_eq_left hk2] at hlen
  cases l with
  | nil => cases h
  | cons b r =>
    have g0 := gd 0 b rfl
    rw [Lib.decode_at, hsl, show s.get! pos = b from g0]
    have hb := u8_le b
    simp only [sgn] at h
    split at h
    · cases h
    · rename_i hbad
      split at h
      · cases h
      · rename_i v hv
        split at h
        · cases h
        · cases h
          by_cases c1 : b.toNat < 128
          · have hN : headN b.toNat = 1 := by unfold headN; rw [if_neg (by omega), if_neg (by omega), if_neg (by omega)]
            have hC : headC b.toNat = b.toNat := by unfold headC; rw [if_neg (by omega), if_neg (by omega), if_neg (by omega)]
            rw [hN, hC] at hv
            rw [hN]
            simp only [Nat.sub_self, cont] at hv
            cases hv
            simp [Lib.decodeN, c1]
          · by_cases c2 : b.toNat < 224
            · have hN : headN b.toNat = 2 := by unfold headN; rw [if_neg (by omega), if_neg (by omega), if_pos (by omega)]
              have hC : headC b.toNat = b.toNat - 192 := by unfold headC; rw [if_neg (by omega), if_neg (by omega), if_pos (by omega)]
              rw [hN, hC] at hv
              rw [hN] at hlen ⊢
              cases r with
              | nil => simp only [cont] at hv; cases hv
              | cons d r =>
                have g1 := gd 1 d rfl
                have hd := u8_le d
                simp only [cont] at hv
                split at hv
                · rename_i hd1
                  cases hv
                  rw [g1]
                  have hr : 1 < (b :: d :: r).length := by simp
                  have q : 128 ≤ b.toNat % 32 * 64 + d.toNat % 64 := by
                    have : ¬ (64 * ((b.toNat : Int) - 192) + (d.toNat : Int) - 128 < 128) := fun e => by rw [if_pos e] at hlen; omega
                    omega
                  unfold Lib.decodeN
                  rw [if_neg c1, if_pos ⟨by omega, hr, by omega⟩, if_pos q]
                  congr 1
                  omega
                · cases hv
            · by_cases c3 : b.toNat < 240
              · have hN : headN b.toNat = 3 := by unfold headN; rw [if_neg (by omega), if_pos (by omega)]
                have hC : headC b.toNat = b.toNat - 224 := by unfold headC; rw [if_neg (by omega), if_pos (by omega)]
                rw [hN, hC] at hv
                rw [hN] at hlen ⊢
                cases r with
                | nil => simp only [cont] at hv; cases hv
                | cons d r => cases r with
                  | nil => simp only [cont] at hv; split at hv <;> cases hv
                  | cons f r =>
                    have g1 := gd 1 d rfl
                    have g2 := gd 2 f rfl
                    have hd := u8_le d
                    have hf := u8_le f
                    simp only [cont] at hv
                    split at hv
                    · split at hv
                      · rename_i hd1 hf1
                        cases hv
                        rw [g1, g2]
                        have hr : 1 < (b :: d :: f :: r).length := by simp
                        have hr2 : 2 < (b :: d :: f :: r).length := by simp
                        have q : ¬ (64 * (64 * ((b.toNat : Int) - 224) + (d.toNat : Int) - 128) + (f.toNat : Int) - 128 < 2048) := fun e => by
                          split at hlen
                          · omega
                          · first | omega | (rw [if_pos e] at hlen; omega)
                        unfold Lib.decodeN
                        rw [if_neg c1, if_neg (by omega), if_pos ⟨by omega, ⟨hr, by omega⟩, hr2, by omega⟩, if_pos (by omega)]
                        congr 1
                        omega
                      · cases hv
                    · cases hv
              · have hN : headN b.toNat = 4 := by unfold headN; rw [if_pos (by omega)]
                have hC : headC b.toNat = b.toNat - 240 := by unfold headC; rw [if_pos (by omega)]
                rw [hN, hC] at hv
                rw [hN] at hlen ⊢
                cases r with
                | nil => simp only [cont] at hv; cases hv
                | cons d r => cases r with
                  | nil => simp only [cont] at hv; split at hv <;> cases hv
                  | cons f r => cases r with
                    | nil => simp only [cont] at hv; split at hv <;> (try split at hv) <;> cases hv
                    | cons m r =>
                      have g1 := gd 1 d rfl
                      have g2 := gd 2 f rfl
                      have g3 := gd 3 m rfl
                      have hd := u8_le d
                      have hf := u8_le f
                      have hm := u8_le m
                      simp only [cont] at hv
                      split at hv
                      · split at hv
                        · split at hv
                          · rename_i hd1 hf1 hm1
                            cases hv
                            rw [g1, g2, g3]
                            have hr : 1 < (b :: d :: f :: m :: r).length := by simp
                            have hr2 : 2 < (b :: d :: f :: m :: r).length := by simp
                            have hr3 : 3 < (b :: d :: f :: m :: r).length := by simp
                            have q : ¬ (64 * (64 * (64 * ((b.toNat : Int) - 240) + (d.toNat : Int) - 128) + (f.toNat : Int) - 128) + (m.toNat : Int) - 128 < 65536) := fun e => by
                              split at hlen
                              · omega
                              · split at hlen
                                · omega
                                · first | omega | (rw [if_pos e] at hlen; omega)
                            unfold Lib.decodeN
                            rw [if_neg c1, if_neg (by omega), if_neg (by omega), if_pos ⟨by omega, ⟨hr, by omega⟩, ⟨hr2, by omega⟩, hr3, by omega⟩, if_pos (by omega)]
                            congr 1
                            omega
                          · cases hv
                        · cases hv
                      · cases hv
theorem enc_put {c : Int} (h0 : 0 ≤ c) (h1 : c ≤ 1114111) (h2 : ¬ (55296 ≤ c ∧ c < 57344)) : (Utf8.encode c).data.toList = toB (putB c) := by
  obtain ⟨m, rfl⟩ : ∃ m : Nat, c = m := ⟨c.toNat, by omega⟩
  have hv : Utf8.valid (m : Int) = true := by
    simp only [Utf8.valid, Bool.or_eq_true, Bool.and_eq_true, decide_eq_true_eq]; omega
  unfold Utf8.encode
  simp only [hv, if_true, Int.toNat_natCast]
  unfold putB toB
  by_cases c1 : m < 128
  · rw [if_pos c1, if_pos (show (m : Int) < 128 by omega)]; rfl
  · rw [if_neg c1, if_neg (show ¬ (m : Int) < 128 by omega)]
    by_cases c2 : m < 2048
    · rw [if_pos c2, if_pos (show (m : Int) < 2048 by omega)]
      simp only [List.map_cons, List.map_nil, show ((192 + (m : Int) / 64).toNat) = 192 + m / 64 by omega, show ((128 + (m : Int) % 64).toNat) = 128 + m % 64 by omega]
    · rw [if_neg c2, if_neg (show ¬ (m : Int) < 2048 by omega)]
      by_cases c3 : m < 65536
      · rw [if_pos c3, if_pos (show (m : Int) < 65536 by omega)]
        simp only [List.map_cons, List.map_nil, show ((224 + (m : Int) / 4096).toNat) = 224 + m / 4096 by omega, show ((128 + (m : Int) / 64 % 64).toNat) = 128 + m / 64 % 64 by omega, show ((128 + (m : Int) % 64).toNat) = 128 + m % 64 by omega]
      · rw [if_neg c3, if_neg (show ¬ (m : Int) < 65536 by omega)]
        simp only [List.map_cons, List.map_nil, show ((240 + (m : Int) / 262144).toNat) = 240 + m / 262144 by omega, show ((128 + (m : Int) / 4096 % 64).toNat) = 128 + m / 4096 % 64 by omega, show ((128 + (m : Int) / 64 % 64).toNat) = 128 + m / 64 % 64 by omega, show ((128 + (m : Int) % 64).toNat) = 128 + m % 64 by omega]
inductive SgAt (s : ByteArray) : Nat → List Int → Prop
  | nil (pos : Nat) (h : s.size ≤ pos) : SgAt s pos []
  | cons (pos k : Nat) (c : Int) (cs : List Int) (hd : Utf8.decode s pos = (c.toNat, k)) (h : pos < s.size) (hk : 1 ≤ k) (hk2 : pos + k ≤ s.size) (h0 : 0 ≤ c) (h1 : c ≤ 1114111) (h2 : ¬ (55296 ≤ c ∧ c < 57344)) (hb : toB (putB c) = (s.data.toList.drop pos).take k) (r : SgAt s (pos + k) cs) : SgAt s pos (c :: cs)
theorem sgAt_of {s : ByteArray} : ∀ (n pos : Nat) (cs : List Int), signsN n (s.data.toList.drop pos) = some cs → SgAt s pos cs := by
  have hsz : s.data.toList.length = s.size := bytes_size s
  intro n
  induction n with
  | zero =>
    intro pos cs h
    cases hl : s.data.toList.drop pos with
    | nil =>
      rw [hl] at h
      cases h
      exact .nil pos (by have := List.drop_eq_nil_iff.1 hl; omega)
    | cons b r => rw [hl] at h; cases h
  | succ n ih =>
    intro pos cs h
    cases hl : s.data.toList.drop pos with
    | nil =>
      rw [hl] at h
      cases h
      exact .nil pos (by have := List.drop_eq_nil_iff.1 hl; omega)
    | cons b r =>
      have hp : pos < s.size := by
        have := congrArg List.length hl
        rw [List.length_drop, hsz] at this
        simp at this; omega
      rw [hl] at h
      simp only [signsN] at h
      cases hs : sgn (b :: r) with
      | none => rw [hs] at h; cases h
      | some p =>
        obtain ⟨c, k⟩ := p
        rw [hs] at h
        simp only at h
        obtain ⟨ds, hds, rfl⟩ := Option.map_eq_some_iff.1 h
        rw [← hl] at hs hds
        obtain ⟨f0, f1, f2, f3, f4, f5⟩ := sgn_facts hs
        rw [List.drop_drop] at hds
        rw [List.length_drop, hsz] at f5
        exact .cons pos k c ds (dec_sgn hs) hp f4 (by omega) f0 f1 f2 f3 (ih _ _ hds)
theorem sgAt_start {s : ByteArray} {cs : List Int} (h : signsL s.data.toList = some cs) : SgAt s 0 cs := sgAt_of _ 0 cs (by simpa [signsL] using h)
theorem SgAt.len {s : ByteArray} {pos : Nat} {cs : List Int} (h : SgAt s pos cs) (hp : pos ≤ s.size) : cs.length + pos ≤ s.size := by
  induction h with
  | nil pos h => simp; omega
  | cons pos k c cs hd h hk hk2 h0 h1 h2 hb r ih => have := ih (by omega); simp; omega
theorem SgAt.bytes {s : ByteArray} {pos : Nat} {cs : List Int} (h : SgAt s pos cs) : s.data.toList.drop pos = toB (cs.flatMap putB) := by
  induction h with
  | nil pos h => rw [List.drop_eq_nil_of_le (by rw [bytes_size]; exact h)]; rfl
  | cons pos k c cs hd h hk hk2 h0 h1 h2 hb r ih =>
    rw [← List.take_append_drop k (s.data.toList.drop pos), ← hb, List.drop_drop, ih]
    simp [toB, List.flatMap_cons]
theorem SgAt.fine {s : ByteArray} {pos : Nat} {cs : List Int} (h : SgAt s pos cs) : ∀ c ∈ cs, 0 ≤ c ∧ c ≤ 1114111 ∧ ¬ (55296 ≤ c ∧ c < 57344) := by
  induction h with
  | nil pos h => intro c hc; cases hc
  | cons pos k c cs hd h hk hk2 h0 h1 h2 hb r ih =>
    intro d hd
    rcases List.mem_cons.1 hd with rfl | hd
    · exact ⟨h0, h1, h2⟩
    · exact ih d hd
end Go.Ab
end
section
namespace Go.Ab
def cells (l : List UInt8) : List FV := l.map fun b => .int .u8 ((b.toNat : Nat) : Int)
theorem cells_app (a b : List UInt8) : cells (a ++ b) = cells a ++ cells b := by simp [cells]
theorem cells_len (a : List UInt8) : (cells a).length = a.length := by simp [cells]
theorem cells_all (a : List UInt8) : List.all (cells a) (FV.isInt .u8) = true := by simp [cells]
theorem cells_fits (a : List UInt8) : List.all (cells a) (FV.fits 1 false) = true := by simp [cells]
theorem cells_back (a : List UInt8) : (⟨(List.map (fun e => UInt8.ofNat (FV.toInt e).toNat) (cells a)).toArray⟩ : ByteArray) = qB a := by
  have : List.map (fun e => UInt8.ofNat (FV.toInt e).toNat) (cells a) = a := by
    unfold cells
    rw [List.map_map]
    conv => rhs; rw [← List.map_id a]
    exact List.map_congr_left fun b _ => by simp
  rw [this]; rfl
theorem putB_range {c : Int} (h0 : 0 ≤ c) (h1 : c ≤ 1114111) : ∀ e ∈ putB c, 0 ≤ e ∧ e ≤ 255 := by
  intro e he
  unfold putB at he
  split at he
  · simp at he; omega
  · split at he
    · simp at he; omega
    · split at he
      · simp at he; omega
      · simp at he; omega
theorem put_cells {c : Int} (h0 : 0 ≤ c) (h1 : c ≤ 1114111) : (putB c).map (FV.int .u8) = cells (toB (putB c)) := by
  unfold cells toB
  rw [List.map_map]
  refine List.map_congr_left fun e he => ?_
  obtain ⟨a, b⟩ := putB_range h0 h1 e he
  simp only [Function.comp]
  rw [UInt8.toNat_ofNat_of_lt' (show e.toNat < 256 by omega), Int.toNat_of_nonneg a]
theorem getD_intQ (l : List Int) {i : Nat} (h : i < l.length) : List.getD (l.map (FV.int .i64)) i FV.nilp = .int .i64 l[i] := by
  simp [List.getD, h]
theorem room_ok {n : Nat} (h : n ≤ 140737488355328) : (decide (n * 1 ≤ roomy) && decide (n ≤ roomy)) = true := by
  have : roomy = 140737488355328 := rfl
  rw [Bool.and_eq_true, decide_eq_true_eq, decide_eq_true_eq]; omega
end Go.Ab
end
section
namespace Go.Ab
def hexB (c : Int) : UInt8 := ([48, 49, 50, 51, 52, 53, 54, 55, 56, 57, 97, 98, 99, 100, 101, 102] : List UInt8).getD c.toNat 0
def quoteB (c : Int) : List UInt8 :=
  if c = 34 then [92, 34] else if c = 92 then [92, 92] else if c = 8 then [92, 98] else if c = 9 then [92, 116] else if c = 10 then [92, 110] else if c = 12 then [92, 102] else if c = 13 then [92, 114]
  else if c < 32 then [92, 117, 48, 48, hexB (c / 16), hexB (c % 16)] else (Utf8.encode c).data.toList
theorem quoted_ok (c : Int) (h0 : 0 ≤ c) : Rt0 N_utf_quoted [.fz (.int .i32 c)] = some ([.fz (.str (qB (quoteB c)))], []) := by
  refine rt_call0 A_utf_quoted rfl rfl 0 ?_
  by_cases h : c < 32
  · have h' : c = 0 ∨ c = 1 ∨ c = 2 ∨ c = 3 ∨ c = 4 ∨ c = 5 ∨ c = 6 ∨ c = 7 ∨ c = 8 ∨ c = 9 ∨ c = 10 ∨ c = 11 ∨ c = 12 ∨ c = 13 ∨ c = 14 ∨ c = 15 ∨ c = 16 ∨ c = 17 ∨ c = 18 ∨ c = 19 ∨ c = 20 ∨ c = 21 ∨ c = 22 ∨ c = 23 ∨ c = 24 ∨ c = 25 ∨ c = 26 ∨ c = 27 ∨ c = 28 ∨ c = 29 ∨ c = 30 ∨ c = 31 := by omega
    rcases h' with rfl | rfl | rfl | rfl | rfl | rfl | rfl | rfl | rfl | rfl | rfl | rfl | rfl | rfl | rfl | rfl | rfl | rfl | rfl | rfl | rfl | rfl | rfl | rfl | rfl | rfl | rfl | rfl | rfl | rfl | rfl | rfl
    all_goals (rw [E_utf_quoted]; first | rfl | exact (by kernel_rfl))
  · rw [E_utf_quoted]
    unfold quoteB
    have e : ∀ n : Int, n < 32 → ¬ (c = n) := fun n hn e => h (by omega)
    by_cases h1 : c = 34
    · subst h1; rfl
    · by_cases h2 : c = 92
      · subst h2; rfl
      · rw [if_neg h1, if_neg h2, if_neg (e 8 (by omega)), if_neg (e 9 (by omega)), if_neg (e 10 (by omega)), if_neg (e 12 (by omega)), if_neg (e 13 (by omega)), if_neg h, qB_self]
        have b1 : (c == 34) = false := by simpa using h1
        have b2 : (c == 92) = false := by simpa using h2
        have b3 : (c == 8) = false := by simpa using e 8 (by omega)
        have b4 : (c == 9) = false := by simpa using e 9 (by omega)
        have b5 : (c == 10) = false := by simpa using e 10 (by omega)
        have b6 : (c == 12) = false := by simpa using e 12 (by omega)
        have b7 : (c == 13) = false := by simpa using e 13 (by omega)
        rw [b1, b2, b3, b4, b5, b6, b7, decide_eq_false h]
        rfl
theorem quoteB_len (c : Int) : (quoteB c).length ≤ 6 := by
  unfold quoteB
  repeat' split
  all_goals first | (simp; done) | skip
  have : ∀ r : Int, (Utf8.encode r).data.toList.length ≤ 4 := fun r => by
    unfold Utf8.encode
    simp only
    repeat' split
    all_goals simp
  have := this c
  omega
end Go.Ab
end
section
namespace Go.Proofs
open Go.Shelf
open Go.RowKit in
theorem Try.Builder_WriteString_k (B b : Nat) (bs : List Value) (s : ByteArray) (w : World) (h : Lib.IsBuilderF 87 5 B b bs w) (hlen : bs.length + s.size ≤ 140737488355328) (hBw : B ≤ w.heap.size) :
    Calls Try.prog 35 #[.pointer (some ⟨b, 0, none⟩), .string s] w fun e w' => e = .returned (.tuple #[.int .i64 s.size, .nilIface]) ∧ (Lib.BuilderAtF 87 5 B b (.pointer (some ⟨b, 0, none⟩)) (bs ++ Lib.strCells s) w' ∧ Below B w w' ∧ Lib.OthersKept 5 (some b) w w') := Any.Builder_WriteString_k Try.lays166 Try.Builder_Extra_105 B b bs s w h hlen hBw
open Go.RowKit in
theorem Try.Builder_String_any_k (B b : Nat) (l : List UInt8) (w : World) (h : Lib.IsBuilderF 87 5 B b (Lib.byteCells l) w) (hBw : B ≤ w.heap.size) :
    Calls Try.prog 36 #[.pointer (some ⟨b, 0, none⟩)] w fun e w' => e = .returned (.string ⟨l.toArray⟩) ∧ (Lib.IsBuilderF 87 5 B b (Lib.byteCells l) w' ∧ Below B w w' ∧ Lib.OthersKept 5 (some b) w w') := Any.Builder_String_any_k Try.lays169 Try.Builder_Extra_105 B b l w h hBw
end Go.Proofs
namespace Go.Ab
noncomputable section
open Go.Proofs Go.RowKit
def qFrom (s : ByteArray) : Nat → Nat → List UInt8
  | 0, _ => []
  | n + 1, pos => if pos < s.size then quoteB (Utf8.decode s pos).1 ++ qFrom s n (pos + (Utf8.decode s pos).2) else []
theorem qFrom_end (s : ByteArray) (n pos : Nat) (h : ¬ pos < s.size) : qFrom s n pos = [] := by
  cases n with
  | zero => rfl
  | succ n => simp [qFrom, h]
def qText (s : ByteArray) : List UInt8 := 34 :: (qFrom s s.size 0 ++ [34])
theorem glob_below {P : Program} {w w' : World} (hG : GlobOK P w (fun b => b < w.heap.size)) (b : Below w.heap.size w w') : GlobOK P w' (fun b => b < w'.heap.size) := hG.mono (fun _ h => Nat.lt_of_lt_of_le h b.size) fun i hi => b.block i hi
theorem call_valid (s : ByteArray) (hs : s.size ≤ 1152921504606846976) (w : World) (hG : GlobOK Try.prog w (fun b => b < w.heap.size)) : Calls Try.prog 81 #[.string s] w fun e w' => e = .returned (.bool (signsL s.data.toList).isSome) ∧ Below w.heap.size w w' := by
  refine (rr_calls tab0_ok (fs := [.str s]) (args := #[.string s]) (valid_ok s hs) hG ⟨.str s, trivial⟩).mono ?_
  rintro e w' ⟨v, rfl, b, S', R⟩
  cases R
  exact ⟨rfl, b⟩
theorem call_quoted (c : Int) (h0 : 0 ≤ c) (w : World) (hG : GlobOK Try.prog w (fun b => b < w.heap.size)) : Calls Try.prog 82 #[.int .i32 c] w fun e w' => e = .returned (.string (qB (quoteB c))) ∧ Below w.heap.size w w' := by
  refine (rr_calls tab0_ok (fs := [.int .i32 c]) (args := #[.int .i32 c]) (quoted_ok c h0) hG ⟨.int .i32 c, trivial⟩).mono ?_
  rintro e w' ⟨v, rfl, b, S', R⟩
  cases R
  exact ⟨rfl, b⟩
theorem qB_size (l : List UInt8) : (qB l).size = l.length := rfl
theorem alloc_le (w : World) (o : Obj) : w.heap.size ≤ (w.alloc o).heap.size := by simp
theorem alloc_lt (w : World) (o : Obj) : w.heap.size < (w.alloc o).heap.size := by simp
theorem below_down {B B' : Nat} {a w : World} (h : B' ≤ B) (k : Below B a w) : Below B' a w := ⟨k.os, k.tape, k.output, k.size, fun i hi => k.block i (Nat.lt_of_lt_of_le hi h)⟩
theorem dec_le (s : ByteArray) (pos : Nat) (h : pos < s.size) : (Utf8.decode s pos).2 ≤ s.size - pos := by
  rw [Lib.decode_at]; exact Lib.decodeN_width_le _ _ _ _ _ (by omega)
def qAns (s : ByteArray) : Value := if (signsL s.data.toList).isSome then .tuple #[.string (qB (qText s)), .int .i64 0] else .tuple #[.string ⟨#[]⟩, .int .i64 7]
set_option maxHeartbeats 4000000 in
set_option maxRecDepth 1000000 in
theorem quote_walk (s : ByteArray) (w : World) (hs : s.size ≤ 1099511627776) (hG : GlobOK Try.prog w (fun b => b < w.heap.size)) :
    Calls Try.prog 63 #[.string s] w fun e w' => e = .returned (qAns s) ∧ Below w.heap.size w w' := by
  have hsz' : s.size ≤ 1152921504606846976 := by omega
  go_enter Try.func63, Try.ntmps63
  go_wp2_with (go_at_call 81; refine (call_valid s hsz' _ hG).mono ?_)
  rintro e w1 ⟨rfl, b1⟩
  generalize hv : (signsL s.data.toList).isSome = v
  cases v with
  | false =>
    go_wp2
    go_ret2
    exact ⟨by unfold qAns; rw [hv]; rfl, b1⟩
  | true =>
    have hI0 : Lib.IsBuilderF 87 5 w1.heap.size w1.heap.size [] (w1.alloc (.cells #[.pointer none, .slice none 0 0] 87)) := Lib.IsBuilderF.of (Lib.fresh_isBuilder 87 5 w1)
    have hc := Try.Builder_WriteString_k w1.heap.size w1.heap.size [] ⟨#[34]⟩ (w1.alloc (.cells #[.pointer none, .slice none 0 0] 87)) hI0 (by decide) (alloc_le _ _)
    have hl0 := alloc_lt w1 (.cells #[.pointer none, .slice none 0 0] 87)
    have bA : Below w.heap.size w (w1.alloc (.cells #[.pointer none, .slice none 0 0] 87)) := b1.alloc b1.size _
    go_wp2_with (go_at_call 35; refine hc.mono ?_)
    rintro e w2 ⟨rfl, h2, b2, k2⟩
    have hs2 := b2.size
    have hs1 := b1.size
    have bB : Below w.heap.size w w2 := bA.trans (below_down b1.size b2)
    go_wp2
    go_loopw [] (fun wr => ∃ (pos fuel : Nat) (acc : List UInt8), Lib.IsBuilderF 87 5 w1.heap.size w1.heap.size (Lib.byteCells acc) wr ∧ wr.heap[w2.heap.size]? = some (.stringIter s pos) ∧ Below w.heap.size w wr ∧ acc ++ qFrom s fuel pos = 34 :: qFrom s s.size 0 ∧ s.size ≤ pos + fuel ∧ acc.length ≤ 1 + 6 * pos ∧ pos ≤ s.size) (fun wr => s.size - wr.iterPos w2.heap.size)
    case atStart =>
      refine ⟨0, s.size, [34], Lib.IsBuilderF.alloc (Or.inr h2) _, ?_, bB.alloc bB.size _, rfl, by omega, by decide, by omega⟩
      have := World.iter_heap w2 s 0
      simpa using this
    case round =>
      obtain ⟨pos, fuel, acc, hI, hit, hbw, hacc, hfu, hal, hps⟩ := hrel
      have hsz : w2.heap.size < wr.heap.size := (Array.getElem?_eq_some_iff.1 hit).1
      by_cases hp : pos < s.size
      · have hnx : ∀ ty, (Instr.next (.pointer (some ⟨w2.heap.size, 0, none⟩)) true ty).run Try.prog wr = _ := fun ty => Lib.run_next_any_at wr w2.heap.size s pos ty hit hp
        have hwd := Lib.decode_width_pos s pos hp
        have hwl := dec_le s pos hp
        have hI2 := hI.iterAt hit (pos + (Utf8.decode s pos).2)
        have hit2 := Lib.iterAt_heap wr w2.heap.size s pos (pos + (Utf8.decode s pos).2) hit
        have hbw2 := Lib.below_iterAt hbw (k := w2.heap.size) (by omega) s (pos + (Utf8.decode s pos).2)
        have hsz2 : w2.heap.size < (wr.iterAt w2.heap.size s (pos + (Utf8.decode s pos).2)).heap.size := by rw [Lib.iterAt_size]; exact hsz
        obtain ⟨f, rfl⟩ : ∃ f, fuel = f + 1 := ⟨fuel - 1, by omega⟩
        have hq := call_quoted ((Utf8.decode s pos).1 : Int) (Int.natCast_nonneg _) (wr.iterAt w2.heap.size s (pos + (Utf8.decode s pos).2)) (glob_below hG hbw2)
        have hql := quoteB_len ((Utf8.decode s pos).1 : Int)
        go_wp2_with (go_at_call 82; refine hq.mono ?_)
        rintro e w4 ⟨rfl, b4⟩
        have hI4 := builderF_below hI2 b4
        have hit4 : w4.heap[w2.heap.size]? = some (.stringIter s (pos + (Utf8.decode s pos).2)) := (b4.block _ hsz2).trans hit2
        have hs4 := b4.size
        have hbw4 := hbw2.trans (below_down hbw2.size b4)
        have hc4 := Try.Builder_WriteString_k w1.heap.size w1.heap.size _ (qB (quoteB ((Utf8.decode s pos).1 : Int))) w4 hI4 (by rw [Lib.byteCells_length, qB_size]; omega) (by omega)
        go_wp2_with (go_at_call 35; refine hc4.mono ?_)
        rintro e w5 ⟨rfl, h5, b5, k5⟩
        go_wp2
        go_roundw
        case rel =>
          refine ⟨pos + (Utf8.decode s pos).2, f, acc ++ quoteB ((Utf8.decode s pos).1 : Int), ?_, k5.iter hit4 (by omega), hbw4.trans (below_down (by omega) b5), ?_, by omega, by simp; omega, by omega⟩
          · rw [Lib.byteCells_append]; exact Or.inr h5
          · rw [← hacc]; simp [qFrom, hp]
        case measure =>
          simp only [World.iterPos, k5.iter hit4 (by omega), hit]
          omega
      · have hnx : ∀ ty, (Instr.next (.pointer (some ⟨w2.heap.size, 0, none⟩)) true ty).run Try.prog wr = _ := fun ty => Lib.run_next_end_at wr w2.heap.size s pos ty hit hp
        have hc6 := Try.Builder_WriteString_k w1.heap.size w1.heap.size _ ⟨#[34]⟩ wr hI (by rw [Lib.byteCells_length]; have : (⟨#[34]⟩ : ByteArray).size = 1 := rfl; omega) (by omega)
        go_wp2_with (go_at_call 35; refine hc6.mono ?_)
        rintro e w6 ⟨rfl, h6, b6, k6⟩
        have h6' : Lib.IsBuilderF 87 5 w1.heap.size w1.heap.size (Lib.byteCells (acc ++ [34])) w6 := by rw [Lib.byteCells_append]; exact Or.inr h6
        have hs6 := b6.size
        have hc7 := Try.Builder_String_any_k w1.heap.size w1.heap.size (acc ++ [34]) w6 h6' (by omega)
        go_wp2_with (go_at_call 36; refine hc7.mono ?_)
        rintro e w7 ⟨rfl, _, b7, _⟩
        go_wp2
        go_ret2
        rw [qFrom_end s fuel pos hp, List.append_nil] at hacc
        subst hacc
        refine ⟨?_, (hbw.trans (below_down (by omega) b6)).trans (below_down (by omega) b7)⟩
        unfold qAns
        rw [hv]
        rfl
def quoteP (ts : List TV) : Option Ans := match ts with
  | [.fz (.str s)] => when (Nat.ble s.size 1099511627776) (some (if (signsL s.data.toList).isSome then ([.fz (.str (qB (qText s))), .fz (.int .i64 0)], []) else ([.fz (.str (qB [])), .fz (.int .i64 7)], [])))
  | _ => none
theorem quote_prim : ∀ ts r, quoteP ts = some r → CallOK Try.prog 63 ts r := by
  intro ts r e
  unfold quoteP at e
  split at e
  · rename_i s
    obtain ⟨hg, e⟩ := when_some e
    have hs := Nat.le_of_ble_eq_true hg
    intro W S args Bs hlt hglob hT
    obtain ⟨x, rfl, rfl, R⟩ := repTs_one hT
    cases R
    refine (quote_walk s W hs (hglob.mono hlt fun _ _ => rfl)).mono fun ex W' hp => ?_
    obtain ⟨rfl, b⟩ := hp
    unfold qAns
    have two : ∀ (l : List UInt8) (n : Int), AnsOk W S [.fz (.str s)] [.string s] [] ([.fz (.str (qB l)), .fz (.int .i64 n)], []) (.tuple #[.string (qB l), .int .i64 n]) W' := fun l n => ans_two (fun t ht => by rcases List.mem_singleton.1 ht with rfl; exact ⟨_, rfl⟩) rfl hlt b (.str _) (.int _ _)
    cases hv : (signsL s.data.toList).isSome with
    | true => rw [hv] at e; cases e; exact two _ _
    | false => rw [hv] at e; cases e; exact two [] 7
  · cases e
def A_quote : AFunc := ⟨1, [], .skip, some quoteP⟩
end
end Go.Ab
end
section
namespace Go.Ab
open Go.Proofs
noncomputable def tab1 : Nat → Option AFunc
  | 80 => some A_show_quoted
  | 65 => some A_num_Text
  | 63 => some A_quote
  | 87 => some A_repeat
  | f => tab0 f
noncomputable def Rt1 : Orc := RR tab1
theorem rt_call1 {f : Nat} (af : AFunc) {ts : List TV} {r : Ans} (hf : tab1 f = some af) (hl : (af.prim.isNone && (ts.length == af.np && Nat.blt af.np 1000)) = true) (k : Nat) (h : callL Rt1 k true af ts = some r) : Rt1 f ts = some r := RR_call af hf hl k h
theorem rt_prim1 {f : Nat} {af : AFunc} {p : List TV → Option Ans} {ts : List TV} {r : Ans} (hf : tab1 f = some af) (hp : af.prim = some p) (h : p ts = some r) : Rt1 f ts = some r := RR_prim hf hp h
set_option maxRecDepth 100000
theorem cf80 : compF Try.prog mds (livesBy Lv Tv 80) 80 Try.f80 = some A_show_quoted := by kernel_rfl
theorem cf65 : compF Try.prog mds (livesBy Lv Tv 65) 65 Try.f65 = some A_num_Text := by kernel_rfl
theorem tab1_ok : TabOK Try.prog mds (livesBy Lv Tv) tab1 := by
  intro f af h
  unfold tab1 at h
  split at h
  · cases h; exact .inl ⟨Try.f80, by kernel_rfl, cf80⟩
  · cases h; exact .inl ⟨Try.f65, by kernel_rfl, cf65⟩
  · cases h; exact .inr ⟨Try.f63, _, rfl, by kernel_rfl, by kernel_rfl, by kernel_rfl, quote_prim⟩
  · cases h; exact .inr ⟨Try.f87, _, rfl, by kernel_rfl, by kernel_rfl, by kernel_rfl, repeat_prim⟩
  · exact tab0_ok f af h
theorem lift01 {f : Nat} {ts : List TV} {r : Ans} (h : Rt0 f ts = some r) : Rt1 f ts = some r := RR_sub (fun f af h => by
  unfold tab0 at h
  split at h <;> cases h <;> rfl) h
end Go.Ab
end
section
namespace Go.Ab
open Go.Proofs Go.RowKit
def WR (B b : Nat) (l : Value) (a most : Int) (full : Bool) (out : List UInt8) (w : World) : Prop :=
  ∃ cs, IsE 118 5 B b 2 cs (Lib.byteCells out) w ∧ cs.size = 6 ∧ cs[0]? = some l ∧ cs[1]? = some (.int .i64 a) ∧ cs[4]? = some (.int .i64 most) ∧ cs[5]? = some (.bool full)
theorem IsE.block {T e B b o : Nat} {cs : Array Value} {bs : List Value} {w : World} (h : IsE T e B b o cs bs w) : w.heap[b]? = some (.cells cs T (0, 0)) := h.elim (fun h => h.2.1) (fun h => h.2.1)
theorem IsE.le {T e B b o : Nat} {cs : Array Value} {bs : List Value} {w : World} (h : IsE T e B b o cs bs w) : B ≤ b := h.elim (fun h => h.1) (fun h => h.1)
theorem BldE.store {T e B b o : Nat} {cs : Array Value} {p : Value} {bs : List Value} {w : World} (h : BldE T e B b o cs p bs w) (i : Nat) (x : Value) (h1 : i ≠ o) (h2 : i ≠ o + 1) : BldE T e B b o (cs.setIfInBounds i x) p bs (w.setCell ⟨b, i, none⟩ x) := by
  obtain ⟨hB, hb, h0, v, hv, hown, hne, hnil⟩ := h
  exact ⟨hB, set_heap hb, by rw [Array.getElem?_setIfInBounds_ne h1]; exact h0, v, by rw [Array.getElem?_setIfInBounds_ne h2]; exact hv, own_set hown hne, hne, hnil⟩
section
variable {B b : Nat} {l : Value} {a most : Int} {full : Bool} {out : List UInt8} {w : World}
theorem WR.heap (h : WR B b l a most full out w) : B ≤ b ∧ b < w.heap.size := by
  obtain ⟨cs, h, _⟩ := h
  exact ⟨h.le, (Array.getElem?_eq_some_iff.1 h.block).1⟩
theorem WR.cell0 (h : WR B b l a most full out w) : w.cell? ⟨b, 0, none⟩ = some l := by
  obtain ⟨cs, h, _, h0, _⟩ := h
  rw [Lib.cell_of_heap h.block]; exact h0
theorem WR.cell1 (h : WR B b l a most full out w) : w.cell? ⟨b, 1, none⟩ = some (.int .i64 a) := by
  obtain ⟨cs, h, _, _, h0, _⟩ := h
  rw [Lib.cell_of_heap h.block]; exact h0
theorem WR.cell4 (h : WR B b l a most full out w) : w.cell? ⟨b, 4, none⟩ = some (.int .i64 most) := by
  obtain ⟨cs, h, _, _, _, h0, _⟩ := h
  rw [Lib.cell_of_heap h.block]; exact h0
theorem WR.cell5 (h : WR B b l a most full out w) : w.cell? ⟨b, 5, none⟩ = some (.bool full) := by
  obtain ⟨cs, h, _, _, _, _, h0⟩ := h
  rw [Lib.cell_of_heap h.block]; exact h0
theorem WR.frozen (h : WR B b l a most full out w) (j : Nat) : w.frozen? ⟨b, j, none⟩ = false := by
  obtain ⟨cs, h, _⟩ := h
  exact Lib.frozen_of_heap h.block j
theorem WR.setFull (h : WR B b l a most full out w) (x : Bool) : WR B b l a most x out (w.setCell ⟨b, 5, none⟩ (.bool x)) := by
  obtain ⟨cs, h, hs, h0, h1, h4, h5⟩ := h
  refine ⟨cs.setIfInBounds 5 (.bool x), h.imp (·.store 5 _ (by omega) (by omega)) (·.store 5 _ (by omega) (by omega)), by simpa using hs, ?_, ?_, ?_, by simp [hs]⟩
  all_goals (rw [Array.getElem?_setIfInBounds_ne (by omega)]; assumption)
theorem WR.kept {w' : World} (h : WR B b l a most full out w) (k : Below w.heap.size w w') : WR B b l a most full out w' := by
  obtain ⟨cs, h, r⟩ := h
  refine ⟨cs, ?_, r⟩
  have hb : w'.heap[b]? = w.heap[b]? := k.block b (Array.getElem?_eq_some_iff.1 h.block).1
  have one : ∀ p, BldE 118 5 B b 2 cs p (Lib.byteCells out) w → BldE 118 5 B b 2 cs p (Lib.byteCells out) w' := by
    rintro p ⟨hB, hb', h0, v, h1, ⟨hl, hown⟩, hne, hnil⟩
    refine ⟨hB, hb.trans hb', h0, v, h1, ⟨hl, ?_⟩, hne, hnil⟩
    rcases hown with h | ⟨g, cap, cur, fz, hv, hg, hc, rest⟩
    · exact .inl h
    · exact .inr ⟨g, cap, cur, fz, hv, hg, (k.block g (Array.getElem?_eq_some_iff.1 hc).1).trans hc, rest⟩
  exact h.imp (one _) (one _)
end
structure Wk (B b : Nat) (w w' : World) : Prop where
  below : Below B w w'
  kept : Lib.OthersKept 5 (some b) w w'
  size : w.heap.size ≤ w'.heap.size
theorem Wk.refl (B b : Nat) (w : World) : Wk B b w w := ⟨Below.refl _ _, .refl _ _ _, Nat.le_refl _⟩
theorem Wk.trans {B b : Nat} {a c d : World} (h : Wk B b a c) (k : Wk B b c d) : Wk B b a d := ⟨h.below.trans k.below, h.kept.trans k.kept, Nat.le_trans h.size k.size⟩
theorem Wk.of {B b : Nat} {w w' : World} (h : B ≤ w.heap.size) (k : Below w.heap.size w w') : Wk B b w w' :=
  ⟨below_down h k, fun i o hi _ _ => (k.block i (Array.getElem?_eq_some_iff.1 hi).1).trans hi, k.size⟩
theorem alloc_wk (w : World) (o : Obj) : Below w.heap.size w (w.alloc o) := (Below.refl _ _).alloc (Nat.le_refl _) _
theorem WR.string {B b : Nat} {l : Value} {a most : Int} {full : Bool} {out : List UInt8} {w : World} (h : WR B b l a most full out w) (s : ByteArray) (hs0 : s.size ≠ 0) (hlen : out.length + s.size ≤ 140737488355328) (hBw : B ≤ w.heap.size) :
    Calls Try.prog 35 #[.pointer (some ⟨b, 2, none⟩), .string s] w fun e w' => e = .returned (.tuple #[.int .i64 s.size, .nilIface]) ∧ WR B b l a most full (out ++ s.data.toList) w' ∧ Wk B b w w' := by
  obtain ⟨cs, hI, hs, h0, h1, h4, h5⟩ := h
  have lies : liesAt Try.prog Try.prog.depth 118 (6 / Try.prog.cellsOf 118) 2 87 1 = true := by kernel_rfl
  refine (E_WriteString_k Try.lays166 Try.Builder_Extra_105 (T := 118) s hs0 (by decide) (by rw [hs]; exact lies) hI (by rw [Lib.byteCells_length]; exact hlen) hBw).mono ?_
  rintro e w' ⟨rfl, cs', hsb, hB, hb, hsz, hk⟩
  exact ⟨rfl, ⟨cs', .inr (by rw [Lib.byteCells_append]; exact hB), hsb.1.trans hs, (hsb.2 0 (by omega) (by omega)).trans h0, (hsb.2 1 (by omega) (by omega)).trans h1, (hsb.2 4 (by omega) (by omega)).trans h4, (hsb.2 5 (by omega) (by omega)).trans h5⟩, ⟨hb, hk, hsz⟩⟩
theorem WR.len {B b : Nat} {l : Value} {a most : Int} {full : Bool} {out : List UInt8} {w : World} (h : WR B b l a most full out w) :
    Calls Try.prog 95 #[.pointer (some ⟨b, 2, none⟩)] w fun e w' => e = .returned (.int .i64 out.length) ∧ w' = w := by
  obtain ⟨cs, hI, _⟩ := h
  have := E_Len Try.lays170 (T := 118) hI
  rw [Lib.byteCells_length] at this
  exact this
def putS (most : Int) (full : Bool) : List ByteArray → List UInt8 → Option (List UInt8 × Bool)
  | [], out => some (out, full)
  | s :: r, out => if full = true then some (out, true) else if most - out.length < -9223372036854775808 ∨ 9223372036854775807 < most - out.length then none else if (s.size : Int) > most - out.length then some (out, true) else if s.size = 0 ∨ 140737488355328 < out.length + s.size then none else putS most full r (out ++ s.data.toList)
theorem wrap_id {x : Int} (h1 : -9223372036854775808 ≤ x) (h2 : x ≤ 9223372036854775807) : IntKind.wrap .i64 x = x := by
  simp [IntKind.wrap, IntKind.signed, IntKind.bits]
  omega
end Go.Ab
end
section
namespace Go.Ab
open Go.Proofs Go.RowKit
theorem WR.drewN {B b : Nat} {l : Value} {a most : Int} {full : Bool} {out : List UInt8} {w : World} (h : WR B b l a most full out w) (n : Nat) : WR B b l a most full out (w.drewN n) := h
theorem Wk.setFull {B b : Nat} {l : Value} {a most : Int} {full : Bool} {out : List UInt8} {w : World} (h : WR B b l a most full out w) (x : Bool) : Wk B b w (w.setCell ⟨b, 5, none⟩ (.bool x)) :=
  ⟨(Below.refl B w).setCell (p := ⟨b, 5, none⟩) h.heap.1 _, (Lib.OthersKept.refl _ _ w).setCell ⟨b, 5, none⟩ rfl _, by simp [World.setCell]⟩
theorem Wk.drewN {B b : Nat} {w w' : World} (h : Wk B b w w') (n : Nat) : Wk B b w (w'.drewN n) := ⟨h.below.trans ⟨rfl, rfl, rfl, Nat.le_refl _, fun _ _ => rfl⟩, h.kept, h.size⟩
set_option maxHeartbeats 4000000 in
set_option maxRecDepth 1000000 in
theorem put_walk {B b ls : Nat} {l : Value} {a most : Int} {full : Bool} {out : List UInt8} {w : World} {xs : List ByteArray} (h : WR B b l a most full out w) (hBw : B ≤ w.heap.size) (hx : w.heap[ls]? = some (.cells (xs.map Value.string).toArray 9 (0, 0))) (hb : ls ≠ b) (hlx : xs.length ≤ 1000) {r : List UInt8 × Bool} (hr : putS most full xs out = some r) :
    Calls Try.prog 78 #[.pointer (some ⟨b, 0, none⟩), .slice (some ⟨ls, 0, none⟩) xs.length xs.length] w fun e w' => e = .returned (.tuple #[]) ∧ WR B b l a most r.2 r.1 w' ∧ Wk B b w w' := by
  go_enter Try.func78, Try.ntmps78
  go_wp2
  go_loopw [8] (fun i wr => ∃ (k : Nat) (out' : List UInt8), k ≤ xs.length ∧ i = .int .i64 k ∧ WR B b l a most full out' wr ∧ Wk B b w wr ∧ putS most full (xs.drop k) out' = some r) (fun i _ => xs.length - (intOf i).toNat)
  case atStart => exact ⟨0, out, by omega, rfl, h, .refl _ _ _, hr⟩
  case round =>
    obtain ⟨k, out', hk, rfl, hW, hK, hP⟩ := hrel
    by_cases hkl : k < xs.length
    · have hcell : wr.cell? ⟨ls, k, none⟩ = some (.string xs[k]) := by
        have := hK.kept ls _ hx (by simpa using hb) (by intro c fz e; cases e)
        rw [Lib.cell_of_heap this]
        simp [hkl]
      rw [List.drop_eq_getElem_cons hkl] at hP
      simp only [putS] at hP
      have c5 := hW.cell5
      have f5 := hW.frozen 5
      have c4 := hW.cell4
      cases full with
      | true =>
        rw [if_pos rfl] at hP
        cases hP
        have hs := hW.setFull true
        clear hr
        go_wp2
        go_quiet (fail)
        go_wp2
        go_returns
        exact ⟨rfl, hs, (hK.drewN _).trans (Wk.setFull (WR.drewN hW _) true)⟩
      | false =>
        rw [if_neg (by simp)] at hP
        by_cases g1 : most - out'.length < -9223372036854775808 ∨ 9223372036854775807 < most - out'.length
        · rw [if_pos g1] at hP; cases hP
        rw [if_neg g1] at hP
        have hw : IntKind.wrap .i64 (most - out'.length) = most - out'.length := wrap_id (by omega) (by omega)
        by_cases g2 : (xs[k].size : Int) > most - out'.length
        · rw [if_pos g2] at hP
          cases hP
          go_wp2
          refine wp_region_quiet_lit (by kernel_rfl) (by kernel_rfl) ?_
          (repeat (quiet_step (fail)))
          refine wpQuiet_step (fun K hK => ?_)
          go_simp
          apply Exists.intro
          refine ⟨fun _ => ?_, hK _ ?_⟩
          · exact Calls.quiet_of_same (WR.len (WR.drewN hW _))
          clear hK K
          (repeat (quiet_step (fail)))
          refine wpQuiet_nil ?_
          rintro _ ⟨nq, rfl⟩
          go_wp2
          go_returns
          exact ⟨rfl, hW.setFull true, (hK.drewN _).trans (Wk.setFull (WR.drewN hW _) true)⟩
        · rw [if_neg g2] at hP
          by_cases g3 : xs[k].size = 0 ∨ 140737488355328 < out'.length + xs[k].size
          · rw [if_pos g3] at hP; cases hP
          rw [if_neg g3] at hP
          go_wp2
          refine wp_region_quiet_lit (by kernel_rfl) (by kernel_rfl) ?_
          (repeat (quiet_step (fail)))
          refine wpQuiet_step (fun K hK => ?_)
          go_simp
          apply Exists.intro
          refine ⟨fun _ => ?_, hK _ ?_⟩
          · exact Calls.quiet_of_same (WR.len (WR.drewN hW _))
          clear hK K
          (repeat (quiet_step (fail)))
          refine wpQuiet_nil ?_
          rintro _ ⟨nq, rfl⟩
          have hst := WR.string (WR.drewN hW nq) xs[k] (by omega) (by omega) (Nat.le_trans hBw hK.size)
          clear hw g1 g3
          have hg2 : decide ((xs[k].size : Int) > most - out'.length) = false := decide_eq_false (by omega)
          go_wp2_with (go_at_call 35; refine hst.mono ?_)
          rintro e w3 ⟨rfl, h3, k3⟩
          go_wp2
          exact ⟨⟨k + 1, _, by omega, by simp, h3, (hK.drewN _).trans k3, hP⟩, by simp [intOf]; omega⟩
    · go_wp2
      go_returns
      have : k = xs.length := by omega
      subst this
      rw [List.drop_length] at hP
      cases hP
      exact ⟨rfl, hW, hK⟩
end Go.Ab
end
section
namespace Go.Ab
noncomputable section
open Go.Proofs Go.RowKit
def q1 (f : Nat) (fs : List FV) : Option FV := match Rt1 f (fs.map .fz) with | some ([.fz e], []) => some e | _ => none
def qInt (f : Nat) (fs : List FV) : Option Int := match q1 f fs with | some (.int .i64 n) => some n | _ => none
def qBool (f : Nat) (fs : List FV) : Option Bool := match q1 f fs with | some (.bool b) => some b | _ => none
def qStr (f : Nat) (fs : List FV) : Option ByteArray := match q1 f fs with | some (.str s) => some s | _ => none
theorem q1_some {f : Nat} {fs : List FV} {e : FV} (h : q1 f fs = some e) : Rt1 f (fs.map .fz) = some ([.fz e], []) := by
  unfold q1 at h
  split at h
  · rename_i e' he; cases h; exact he
  · cases h
theorem qInt_some {f : Nat} {fs : List FV} {n : Int} (h : qInt f fs = some n) : Rt1 f (fs.map .fz) = some ([.fz (.int .i64 n)], []) := by
  unfold qInt at h
  split at h
  · rename_i e' he; cases h; exact q1_some he
  · cases h
theorem qBool_some {f : Nat} {fs : List FV} {n : Bool} (h : qBool f fs = some n) : Rt1 f (fs.map .fz) = some ([.fz (.bool n)], []) := by
  unfold qBool at h
  split at h
  · rename_i e' he; cases h; exact q1_some he
  · cases h
theorem qStr_some {f : Nat} {fs : List FV} {n : ByteArray} (h : qStr f fs = some n) : Rt1 f (fs.map .fz) = some ([.fz (.str n)], []) := by
  unfold qStr at h
  split at h
  · rename_i e' he; cases h; exact q1_some he
  · cases h
abbrev ShS := List UInt8 × Bool
def putT (most : Int) (xs : List ByteArray) (st : ShS) : Option ShS := putS most st.2 xs st.1
def isNode : FV → Bool
  | .ag [.int .i64 _, .int .i64 _, .int .i64 _, .int .i64 _, .int .i64 _, .str _, .sl _, .sl _] => true
  | _ => false
theorem isNode_eq {x : FV} (h : isNode x = true) : ∃ lb dp kd co sc s its ks, x = .ag [.int .i64 lb, .int .i64 dp, .int .i64 kd, .int .i64 co, .int .i64 sc, .str s, .sl its, .sl ks] := by
  unfold isNode at h
  split at h
  · exact ⟨_, _, _, _, _, _, _, _, rfl⟩
  · cases h
def itemsF (most : Int) (nd : FV → Int → ShS → Option ShS) (kd : Int) (ks : List FV) (up : Int) : Nat → List FV → ShS → Option ShS
  | _, [], st => some st
  | i, x :: r, st => if isNode x = false then none else if st.2 = true then some st else
      (if 0 < i then putT most [⟨#[44]⟩] st else some st).bind fun st1 =>
      (if kd = 6 ∧ i < ks.length then (match ks[i]? with
        | some (.str k) => (qStr 103 [.str k]).bind fun e => (qStr 80 [.str e]).bind fun q => putT most [q, ⟨#[58]⟩] st1
        | _ => none) else some st1).bind fun st2 =>
      (nd x up st2).bind fun st3 => itemsF most nd kd ks up (i + 1) r st3
def bodyF (most : Int) (nd : FV → Int → ShS → Option ShS) (x : FV) (up : Int) (st : ShS) : Option ShS := match x with
  | .ag [.int .i64 _, .int .i64 _, .int .i64 kd, .int .i64 co, .int .i64 sc, .str s, .sl its, .sl ks] =>
    if 140737488355328 < its.length ∨ 140737488355328 < ks.length then none else
    if kd = 0 then putT most [⟨#[110, 117, 108, 108]⟩] st
    else if kd = 1 then putT most [⟨#[102, 97, 108, 115, 101]⟩] st
    else if kd = 2 then putT most [⟨#[116, 114, 117, 101]⟩] st
    else if kd = 3 then (qStr 65 [.ag [.int .i64 co, .int .i64 sc]]).bind fun t => putT most [t] st
    else if kd = 4 then (qStr 80 [.str s]).bind fun t => putT most [t] st
    else if kd = 7 then (qStr 80 [.str s]).bind fun t => putT most [⟨#[123, 34, 35, 33, 34, 58]⟩, t, ⟨#[125]⟩] st
    else if kd = 5 then (putT most [⟨#[91]⟩] st).bind fun st => (itemsF most nd kd ks up 0 its st).bind fun st => putT most [⟨#[93]⟩] st
    else if kd = 6 then (putT most [⟨#[123]⟩] st).bind fun st => (itemsF most nd kd ks up 0 its st).bind fun st => putT most [⟨#[125]⟩] st
    else some st
  | _ => none
def nodeF (L : FV) (a most : Int) (nd : FV → Int → ShS → Option ShS) (x : FV) (up : Int) (st : ShS) : Option ShS := match x with
  | .ag [.int .i64 lb, .int .i64 _, .int .i64 _, .int .i64 _, .int .i64 _, .str _, .sl _, .sl _] =>
    (qInt 77 [L, .int .i64 up, .int .i64 lb]).bind fun j => (qBool 18 [L, .int .i64 j, .int .i64 a]).bind fun le =>
      if le = false then putT most [⟨#[123, 34, 35, 34, 58, 110, 117, 108, 108, 125]⟩] st
      else if j = up then bodyF most nd x j st
      else (qStr 34 [L, .int .i64 j]).bind fun t => (qStr 80 [.str t]).bind fun q => (putT most [⟨#[123, 34, 35, 34, 58]⟩, q, ⟨#[44, 34, 61, 34, 58]⟩] st).bind fun st => (bodyF most nd x j st).bind fun st => putT most [⟨#[125]⟩] st
  | _ => none
def nodeS (L : FV) (a most : Int) : Nat → FV → Int → ShS → Option ShS
  | 0 => fun _ _ _ => none
  | n + 1 => nodeF L a most (nodeS L a most n)
def AP (v : Value) (w : World) (e : Ending) (w' : World) : Prop := e = .returned v ∧ Below w.heap.size w w'
structure Ctx (W0 : World) (S : Nat → Prop) (b : Nat) (L : FV) (lv : Value) : Prop where
  lt : ∀ k, S k → k < W0.heap.size
  glob : GlobOK Try.prog W0 (fun b => b < W0.heap.size)
  rep : Rep W0 S L lv
  le : W0.heap.size ≤ b
structure Wst (W0 : World) (b : Nat) (lv : Value) (a most : Int) (st : ShS) (w : World) : Prop where
  wr : WR W0.heap.size b lv a most st.2 st.1 w
  below : Below W0.heap.size W0 w
def CP (W0 : World) (b : Nat) (lv : Value) (a most : Int) (st : ShS) (w : World) (e : Ending) (w' : World) : Prop := e = .returned (.tuple #[]) ∧ Wst W0 b lv a most st w' ∧ Wk W0.heap.size b w w'
section
variable {W0 : World} {S : Nat → Prop} {b : Nat} {L : FV} {lv : Value} {a most : Int} {st : ShS} {w w' : World}
theorem Wst.size (h : Wst W0 b lv a most st w) : W0.heap.size ≤ w.heap.size := h.below.size
theorem Wst.kept (h : Wst W0 b lv a most st w) (k : Below w.heap.size w w') : Wst W0 b lv a most st w' := ⟨h.wr.kept k, h.below.trans (below_down h.size k)⟩
theorem Ctx.rep_in (C : Ctx W0 S b L lv) (h : Below W0.heap.size W0 w) {e : FV} {v : Value} (r : Rep W0 S e v) : Rep w (fun k => k < w.heap.size) e v :=
  r.mono (fun k hk => Nat.lt_of_lt_of_le (C.lt k hk) h.size) fun k hk => h.block k (C.lt k hk)
theorem Ctx.globs (C : Ctx W0 S b L lv) (h : Below W0.heap.size W0 w) : GlobOK Try.prog w (fun k => k < w.heap.size) := C.glob.mono (fun _ hk => Nat.lt_of_lt_of_le hk h.size) fun i hi => h.block i hi
theorem Ctx.ask (C : Ctx W0 S b L lv) (h : Below W0.heap.size W0 w) {f : Nat} {fs : List FV} {args : Array Value} {e : FV} (hq : Rt1 f (fs.map .fz) = some ([.fz e], [])) (hA : RepArgs w fs args.toList) :
    Calls Try.prog f args w fun ex W' => ∃ v, ex = .returned v ∧ Below w.heap.size w W' ∧ ∃ S', Rep W' S' e v := rr_calls tab1_ok hq (C.globs h) hA
theorem Ctx.askInt (C : Ctx W0 S b L lv) (h : Below W0.heap.size W0 w) {f : Nat} {fs : List FV} {args : Array Value} {n : Int} (hq : qInt f fs = some n) (hA : RepArgs w fs args.toList) :
    Calls Try.prog f args w (AP (.int .i64 n) w) := by
  refine (C.ask h (qInt_some hq) hA).mono ?_
  rintro ex W' ⟨v, rfl, hb, S', R⟩
  cases R
  exact ⟨rfl, hb⟩
theorem Ctx.askBool (C : Ctx W0 S b L lv) (h : Below W0.heap.size W0 w) {f : Nat} {fs : List FV} {args : Array Value} {n : Bool} (hq : qBool f fs = some n) (hA : RepArgs w fs args.toList) :
    Calls Try.prog f args w (AP (.bool n) w) := by
  refine (C.ask h (qBool_some hq) hA).mono ?_
  rintro ex W' ⟨v, rfl, hb, S', R⟩
  cases R
  exact ⟨rfl, hb⟩
theorem Ctx.askStr (C : Ctx W0 S b L lv) (h : Below W0.heap.size W0 w) {f : Nat} {fs : List FV} {args : Array Value} {n : ByteArray} (hq : qStr f fs = some n) (hA : RepArgs w fs args.toList) :
    Calls Try.prog f args w (AP (.string n) w) := by
  refine (C.ask h (qStr_some hq) hA).mono ?_
  rintro ex W' ⟨v, rfl, hb, S', R⟩
  cases R
  exact ⟨rfl, hb⟩
theorem Wst.put (h : Wst W0 b lv a most st w) {ls : Nat} {xs : List ByteArray} (hx : w.heap[ls]? = some (.cells (xs.map Value.string).toArray 9 (0, 0))) (hb : ls ≠ b) (hlx : xs.length ≤ 1000) {r : ShS} (hr : putT most xs st = some r) :
    Calls Try.prog 78 #[.pointer (some ⟨b, 0, none⟩), .slice (some ⟨ls, 0, none⟩) xs.length xs.length] w (CP W0 b lv a most r w) :=
  (put_walk h.wr h.size hx hb hlx hr).mono fun e w' ⟨h1, h2, h3⟩ => ⟨h1, ⟨h2, h.below.trans h3.below⟩, h3⟩
end
def NDW (W0 : World) (S : Nat → Prop) (b : Nat) (lv : Value) (a most : Int) (nd : FV → Int → ShS → Option ShS) : Prop :=
  ∀ (x : FV) (up : Int) (st st' : ShS) (v : Value) (w : World), nd x up st = some st' → Rep W0 S x v → Wst W0 b lv a most st w →
    Calls Try.prog 61 #[.pointer (some ⟨b, 0, none⟩), v, .int .i64 up] w (CP W0 b lv a most st' w)
end
end Go.Ab
end
section
namespace Go.Ab
open Go.Proofs Go.RowKit
theorem node_rep {W : World} {S : Nat → Prop} {lb dp kd co sc : Int} {s : ByteArray} {its ks : List FV} {v : Value} (h : Rep W S (.ag [.int .i64 lb, .int .i64 dp, .int .i64 kd, .int .i64 co, .int .i64 sc, .str s, .sl its, .sl ks]) v) :
    ∃ iv kv, v = .agg #[.int .i64 lb, .int .i64 dp, .int .i64 kd, .int .i64 co, .int .i64 sc, .string s, iv, kv] ∧ Rep W S (.sl its) iv ∧ Rep W S (.sl ks) kv ∧ iv.oneCell' = true ∧ kv.oneCell' = true := by
  cases h with
  | ag cs vs hl h1 h =>
    obtain ⟨l⟩ := vs
    match l, hl with
    | [v0, v1, v2, v3, v4, v5, v6, v7], _ =>
      have e0 := h 0 _ v0 rfl rfl
      have e1 := h 1 _ v1 rfl rfl
      have e2 := h 2 _ v2 rfl rfl
      have e3 := h 3 _ v3 rfl rfl
      have e4 := h 4 _ v4 rfl rfl
      have e5 := h 5 _ v5 rfl rfl
      have e6 := h 6 _ v6 rfl rfl
      have e7 := h 7 _ v7 rfl rfl
      cases e0; cases e1; cases e2; cases e3; cases e4; cases e5
      exact ⟨v6, v7, rfl, e6, e7, h1 6 v6 rfl, h1 7 v7 rfl⟩
theorem alloc_at (w : World) (o : Obj) : (w.alloc o).heap[w.heap.size]? = some o := heap_alloc_new w o
section
variable {W0 : World} {S : Nat → Prop} {b : Nat} {L : FV} {lv : Value} {a most : Int} {st : ShS} {w : World}
theorem Wst.alloc (h : Wst W0 b lv a most st w) (o : Obj) : Wst W0 b lv a most st (w.alloc o) := h.kept (alloc_wk w o)
theorem Wst.wkAlloc (h : Wst W0 b lv a most st w) (o : Obj) : Wk W0.heap.size b w (w.alloc o) := Wk.of h.size (alloc_wk w o)
theorem Wst.put1 (h : Wst W0 b lv a most st w) (x : ByteArray) {r : ShS} (hr : putT most [x] st = some r) :
    Calls Try.prog 78 #[.pointer (some ⟨b, 0, none⟩), .slice (some ⟨w.heap.size, 0, none⟩) 1 1] (w.alloc (.cells #[.string x] 9)) (CP W0 b lv a most r w) :=
  ((h.alloc _).put (ls := w.heap.size) (xs := [x]) (alloc_at w _) (Nat.ne_of_gt h.wr.heap.2) (by simp only [List.length_cons, List.length_nil]; omega) hr).mono fun e w' ⟨h1, h2, h3⟩ => ⟨h1, h2, (h.wkAlloc _).trans h3⟩
theorem Wst.put3 (h : Wst W0 b lv a most st w) (x y z : ByteArray) {r : ShS} (hr : putT most [x, y, z] st = some r) :
    Calls Try.prog 78 #[.pointer (some ⟨b, 0, none⟩), .slice (some ⟨w.heap.size, 0, none⟩) 3 3] (w.alloc (.cells #[.string x, .string y, .string z] 9)) (CP W0 b lv a most r w) :=
  ((h.alloc _).put (ls := w.heap.size) (xs := [x, y, z]) (alloc_at w _) (Nat.ne_of_gt h.wr.heap.2) (by simp only [List.length_cons, List.length_nil]; omega) hr).mono fun e w' ⟨h1, h2, h3⟩ => ⟨h1, h2, (h.wkAlloc _).trans h3⟩
theorem Wst.put2 (h : Wst W0 b lv a most st w) (x y : ByteArray) {r : ShS} (hr : putT most [x, y] st = some r) :
    Calls Try.prog 78 #[.pointer (some ⟨b, 0, none⟩), .slice (some ⟨w.heap.size, 0, none⟩) 2 2] (w.alloc (.cells #[.string x, .string y] 9)) (CP W0 b lv a most r w) :=
  ((h.alloc _).put (ls := w.heap.size) (xs := [x, y]) (alloc_at w _) (Nat.ne_of_gt h.wr.heap.2) (by simp only [List.length_cons, List.length_nil]; omega) hr).mono fun e w' ⟨h1, h2, h3⟩ => ⟨h1, h2, (h.wkAlloc _).trans h3⟩
end
theorem rep_num (W : World) (S : Nat → Prop) (x y : Int) : Rep W S (.ag [.int .i64 x, .int .i64 y]) (.agg #[.int .i64 x, .int .i64 y]) :=
  .ag _ _ rfl (fun j v h => by
    match j, h with
    | 0, h => cases h; rfl
    | 1, h => cases h; rfl
    | j + 2, h => simp at h) fun j e v h h' => by
    match j, h, h' with
    | 0, h, h' => cases h; cases h'; exact .int _ _
    | 1, h, h' => cases h; cases h'; exact .int _ _
    | j + 2, h, _ => simp at h
theorem cells8 {w : World} {N : Nat} {v0 v1 v2 v3 v4 v5 v6 v7 : Value} {T : TypeId} {fz : Nat × Nat} (h : w.heap[N]? = some (.cells #[v0, v1, v2, v3, v4, v5, v6, v7] T fz)) :
    w.cell? ⟨N, 0, none⟩ = some v0 ∧ w.cell? ⟨N, 1, none⟩ = some v1 ∧ w.cell? ⟨N, 2, none⟩ = some v2 ∧ w.cell? ⟨N, 3, none⟩ = some v3 ∧ w.cell? ⟨N, 4, none⟩ = some v4 ∧ w.cell? ⟨N, 5, none⟩ = some v5 ∧ w.cell? ⟨N, 6, none⟩ = some v6 ∧ w.cell? ⟨N, 7, none⟩ = some v7 := by
  refine ⟨?_, ?_, ?_, ?_, ?_, ?_, ?_, ?_⟩ <;> (rw [Lib.cell_of_heap h]; rfl)
def IT (W0 : World) (S : Nat → Prop) (b : Nat) (lv : Value) (a most : Int) (nd : FV → Int → ShS → Option ShS) : Prop :=
  ∀ (lb dp kd co sc up : Int) (s : ByteArray) (its ks : List FV) (st st' : ShS) (v : Value) (w : World), itemsF most nd kd ks up 0 its st = some st' → its.length ≤ 140737488355328 → ks.length ≤ 140737488355328 →
    Rep W0 S (.ag [.int .i64 lb, .int .i64 dp, .int .i64 kd, .int .i64 co, .int .i64 sc, .str s, .sl its, .sl ks]) v → Wst W0 b lv a most st w →
    Calls Try.prog 96 #[.pointer (some ⟨b, 0, none⟩), v, .int .i64 up] w (CP W0 b lv a most st' w)
set_option maxHeartbeats 4000000 in
set_option maxRecDepth 1000000 in
theorem body_walk {W0 : World} {S : Nat → Prop} {b : Nat} {L : FV} {lv : Value} (C : Ctx W0 S b L lv) {a most : Int} {nd : FV → Int → ShS → Option ShS} (hI : IT W0 S b lv a most nd)
    (x : FV) (up : Int) (st st' : ShS) (v : Value) (w : World) (h : bodyF most nd x up st = some st') (R : Rep W0 S x v) (hw : Wst W0 b lv a most st w) :
    Calls Try.prog 79 #[.pointer (some ⟨b, 0, none⟩), v, .int .i64 up] w (CP W0 b lv a most st' w) := by
  unfold bodyF at h
  split at h
  · rename_i lb dp kd co sc s its ks
    split at h
    · cases h
    rename_i hl
    have R0 := R
    obtain ⟨iv, kv, rfl, Ri, Rk, o1, o2⟩ := node_rep R
    have hz : (w.alloc (.cells #[.int .i64 lb, .int .i64 dp, .int .i64 kd, .int .i64 co, .int .i64 sc, .string s, iv, kv] 42)).heap.size = w.heap.size + 1 := by simp
    have hN := hw.alloc (.cells #[.int .i64 lb, .int .i64 dp, .int .i64 kd, .int .i64 co, .int .i64 sc, .string s, iv, kv] 42)
    have kN := hw.wkAlloc (.cells #[.int .i64 lb, .int .i64 dp, .int .i64 kd, .int .i64 co, .int .i64 sc, .string s, iv, kv] 42)
    have eN : (w.alloc (.cells #[.int .i64 lb, .int .i64 dp, .int .i64 kd, .int .i64 co, .int .i64 sc, .string s, iv, kv] 42)).heap[w.heap.size]? = some (.cells #[.int .i64 lb, .int .i64 dp, .int .i64 kd, .int .i64 co, .int .i64 sc, .string s, iv, kv] 42 (0, 0)) := heap_alloc_new w _
    have hNb : some w.heap.size ≠ some b := fun e => by
      have := hw.wr.heap.2
      have := Option.some.inj e
      omega
    by_cases g0 : kd = 0
    · rw [if_pos g0] at h
      subst g0
      have hp := hN.put1 _ h
      rw [hz] at hp
      go_enter Try.func79, Try.ntmps79
      go_wp2_with (go_at_call 78; refine hp.mono ?_)
      rintro e w2 ⟨rfl, h2, k2⟩
      go_wp2
      go_returns
      exact ⟨rfl, h2, kN.trans k2⟩
    rw [if_neg g0] at h
    by_cases g1 : kd = 1
    · rw [if_pos g1] at h
      subst g1
      have hp := hN.put1 _ h
      rw [hz] at hp
      go_enter Try.func79, Try.ntmps79
      go_wp2_with (go_at_call 78; refine hp.mono ?_)
      rintro e w2 ⟨rfl, h2, k2⟩
      go_wp2
      go_returns
      exact ⟨rfl, h2, kN.trans k2⟩
    rw [if_neg g1] at h
    by_cases g2 : kd = 2
    · rw [if_pos g2] at h
      subst g2
      have hp := hN.put1 _ h
      rw [hz] at hp
      go_enter Try.func79, Try.ntmps79
      go_wp2_with (go_at_call 78; refine hp.mono ?_)
      rintro e w2 ⟨rfl, h2, k2⟩
      go_wp2
      go_returns
      exact ⟨rfl, h2, kN.trans k2⟩
    rw [if_neg g2] at h
    by_cases g3 : kd = 3
    · rw [if_pos g3] at h
      subst g3
      obtain ⟨t, hq, h⟩ := Option.bind_eq_some_iff.1 h
      have hc := C.askStr hN.below (args := #[.agg #[.int .i64 co, .int .i64 sc]]) hq ⟨rep_num _ _ _ _, trivial⟩
      go_enter Try.func79, Try.ntmps79
      go_wp2_with (go_at_call 65; refine hc.mono ?_)
      rintro e w1 ⟨rfl, b1⟩
      have h1 := hN.kept b1
      have k1 : Wk W0.heap.size b _ w1 := Wk.of hN.size b1
      have hp := h1.put1 _ h
      clear hc
      go_wp2_with (go_at_call 78; refine hp.mono ?_)
      rintro e w2 ⟨rfl, h2, k2⟩
      go_wp2
      go_returns
      exact ⟨rfl, h2, (kN.trans k1).trans k2⟩
    rw [if_neg g3] at h
    by_cases g4 : kd = 4
    · rw [if_pos g4] at h
      subst g4
      obtain ⟨t, hq, h⟩ := Option.bind_eq_some_iff.1 h
      have hc := C.askStr hN.below (args := #[.string s]) hq ⟨.str s, trivial⟩
      go_enter Try.func79, Try.ntmps79
      go_wp2_with (go_at_call 80; refine hc.mono ?_)
      rintro e w1 ⟨rfl, b1⟩
      have h1 := hN.kept b1
      have k1 : Wk W0.heap.size b _ w1 := Wk.of hN.size b1
      have hp := h1.put1 _ h
      clear hc
      go_wp2_with (go_at_call 78; refine hp.mono ?_)
      rintro e w2 ⟨rfl, h2, k2⟩
      go_wp2
      go_returns
      exact ⟨rfl, h2, (kN.trans k1).trans k2⟩
    rw [if_neg g4] at h
    by_cases g7 : kd = 7
    · rw [if_pos g7] at h
      subst g7
      obtain ⟨t, hq, h⟩ := Option.bind_eq_some_iff.1 h
      have hc := C.askStr hN.below (args := #[.string s]) hq ⟨.str s, trivial⟩
      go_enter Try.func79, Try.ntmps79
      go_wp2_with (go_at_call 80; refine hc.mono ?_)
      rintro e w1 ⟨rfl, b1⟩
      have h1 := hN.kept b1
      have k1 : Wk W0.heap.size b _ w1 := Wk.of hN.size b1
      have hp := h1.put3 _ _ _ h
      clear hc
      go_wp2_with (go_at_call 78; refine hp.mono ?_)
      rintro e w2 ⟨rfl, h2, k2⟩
      go_wp2
      go_returns
      exact ⟨rfl, h2, (kN.trans k1).trans k2⟩
    rw [if_neg g7] at h
    by_cases g5 : kd = 5
    · rw [if_pos g5] at h
      subst g5
      obtain ⟨s1, hp1, h⟩ := Option.bind_eq_some_iff.1 h
      obtain ⟨s2, hit, h⟩ := Option.bind_eq_some_iff.1 h
      have hp := hN.put1 _ hp1
      rw [hz] at hp
      go_enter Try.func79, Try.ntmps79
      go_wp2_with (go_at_call 78; refine hp.mono ?_)
      rintro e w2 ⟨rfl, h2, k2⟩
      have e2 := k2.kept _ _ eN hNb (by intro c fz e; cases e)
      obtain ⟨c0, c1, c2, c3, c4, c5, c6, c7⟩ := cells8 e2
      have hc := hI lb dp 5 co sc up s its ks s1 s2 _ w2 hit (by omega) (by omega) R0 h2
      clear hp
      go_wp2_with (go_at_call 96; refine hc.mono ?_)
      rintro e w3 ⟨rfl, h3, k3⟩
      have hp := h3.put1 _ h
      clear hc c0 c1 c2 c3 c4 c5 c6 c7
      go_wp2_with (go_at_call 78; refine hp.mono ?_)
      rintro e w4 ⟨rfl, h4, k4⟩
      go_wp2
      go_returns
      exact ⟨rfl, h4, ((kN.trans k2).trans k3).trans k4⟩
    rw [if_neg g5] at h
    by_cases g6 : kd = 6
    · rw [if_pos g6] at h
      subst g6
      obtain ⟨s1, hp1, h⟩ := Option.bind_eq_some_iff.1 h
      obtain ⟨s2, hit, h⟩ := Option.bind_eq_some_iff.1 h
      have hp := hN.put1 _ hp1
      rw [hz] at hp
      go_enter Try.func79, Try.ntmps79
      go_wp2_with (go_at_call 78; refine hp.mono ?_)
      rintro e w2 ⟨rfl, h2, k2⟩
      have e2 := k2.kept _ _ eN hNb (by intro c fz e; cases e)
      obtain ⟨c0, c1, c2, c3, c4, c5, c6, c7⟩ := cells8 e2
      have hc := hI lb dp 6 co sc up s its ks s1 s2 _ w2 hit (by omega) (by omega) R0 h2
      clear hp
      go_wp2_with (go_at_call 96; refine hc.mono ?_)
      rintro e w3 ⟨rfl, h3, k3⟩
      have hp := h3.put1 _ h
      clear hc c0 c1 c2 c3 c4 c5 c6 c7
      go_wp2_with (go_at_call 78; refine hp.mono ?_)
      rintro e w4 ⟨rfl, h4, k4⟩
      go_wp2
      go_returns
      exact ⟨rfl, h4, ((kN.trans k2).trans k3).trans k4⟩
    rw [if_neg g6] at h
    cases h
    go_enter Try.func79, Try.ntmps79
    go_wp2
    go_returns
    exact ⟨rfl, hN, kN⟩
  · cases h
end Go.Ab
end
section
namespace Go.Ab
open Go.Proofs Go.RowKit
theorem items_rep {W : World} {S : Nat → Prop} {its : List FV} {iv : Value} (h : Rep W S (.sl its) iv) : ∃ ad cap, iv = .slice ad its.length cap ∧ its.length ≤ cap ∧ ∀ k x, its[k]? = some x → x.isAg 8 = true → ∃ (B off : Nat) (g : Nat → Value), ad = some ⟨B, off, none⟩ ∧ S B ∧ (∀ j, j < 8 → W.cell? ⟨B, off + k * 8 + j, none⟩ = some (g j)) ∧ (∀ j, j < 8 → (g j).oneCell' = true) ∧ Rep W S x (.agg #[g 0, g 1, g 2, g 3, g 4, g 5, g 6, g 7]) := by
  cases h with
  | sl0 a cap => exact ⟨a, cap, rfl, Nat.zero_le _, fun k x h => by simp at h⟩
  | sl _ B off cap sz agg g hS hcap hf hc h1 hh =>
    refine ⟨some ⟨B, off, none⟩, cap, rfl, hcap, fun k x hk hx => ?_⟩
    have hkl : k < its.length := (List.getElem?_eq_some_iff.1 hk).1
    have hfx := hf x (List.mem_of_getElem? hk)
    obtain ⟨cs, rfl⟩ : ∃ cs, x = .ag cs := by cases x <;> first | (cases hx; done) | exact ⟨_, rfl⟩
    have h8 : cs.length = 8 := by simpa [FV.isAg] using hx
    obtain ⟨rfl, rfl⟩ : agg = true ∧ sz = 8 := by
      cases agg with
      | true => simp only [FV.fits, FV.isAg, beq_iff_eq] at hfx; exact ⟨rfl, by omega⟩
      | false => simp [FV.fits] at hfx
    have hb : ∀ j, j < 8 → k * 8 + j < its.length * 8 := fun j hj => by omega
    refine ⟨B, off, fun j => g (k * 8 + j), rfl, hS, fun j hj => by rw [Nat.add_assoc]; exact hc _ (hb j hj), fun j hj => h1 _ (hb j hj), ?_⟩
    refine .ag _ _ (by simp [h8]) (fun j v hv => ?_) fun j e v he hv => ?_
    · have hj : j < 8 := (Array.getElem?_eq_some_iff.1 hv).1
      have : v = g (k * 8 + j) := by
        match j, hj, hv with
        | 0, _, hv => exact (Option.some.inj hv).symm
        | 1, _, hv => exact (Option.some.inj hv).symm
        | 2, _, hv => exact (Option.some.inj hv).symm
        | 3, _, hv => exact (Option.some.inj hv).symm
        | 4, _, hv => exact (Option.some.inj hv).symm
        | 5, _, hv => exact (Option.some.inj hv).symm
        | 6, _, hv => exact (Option.some.inj hv).symm
        | 7, _, hv => exact (Option.some.inj hv).symm
      rw [this]
      exact h1 _ (hb j hj)
    · have hj : j < 8 := (Array.getElem?_eq_some_iff.1 hv).1
      have : v = g (k * 8 + j) := by
        match j, hj, hv with
        | 0, _, hv => exact (Option.some.inj hv).symm
        | 1, _, hv => exact (Option.some.inj hv).symm
        | 2, _, hv => exact (Option.some.inj hv).symm
        | 3, _, hv => exact (Option.some.inj hv).symm
        | 4, _, hv => exact (Option.some.inj hv).symm
        | 5, _, hv => exact (Option.some.inj hv).symm
        | 6, _, hv => exact (Option.some.inj hv).symm
        | 7, _, hv => exact (Option.some.inj hv).symm
      rw [this]
      exact hh k _ j e hk he
theorem keys_rep {W : World} {S : Nat → Prop} {ks : List FV} {kv : Value} (h : Rep W S (.sl ks) kv) : ∃ ad cap, kv = .slice ad ks.length cap ∧ ks.length ≤ cap ∧ ∀ k s, ks[k]? = some (.str s) → ∃ B off, ad = some ⟨B, off, none⟩ ∧ S B ∧ W.cell? ⟨B, off + k, none⟩ = some (.string s) := by
  cases h with
  | sl0 a cap => exact ⟨a, cap, rfl, Nat.zero_le _, fun k x h => by simp at h⟩
  | sl _ B off cap sz agg g hS hcap hf hc h1 hh =>
    refine ⟨some ⟨B, off, none⟩, cap, rfl, hcap, fun k s hk => ?_⟩
    have hkl : k < ks.length := (List.getElem?_eq_some_iff.1 hk).1
    have hfx := hf _ (List.mem_of_getElem? hk)
    obtain ⟨rfl, rfl⟩ : agg = false ∧ sz = 1 := by
      cases agg with
      | true => simp [FV.fits, FV.isAg] at hfx
      | false => simp [FV.fits] at hfx; exact ⟨rfl, hfx⟩
    have hR := hh k _ 0 (.str s) hk rfl
    have hcc := hc k (by omega)
    refine ⟨B, off, rfl, hS, ?_⟩
    rw [hcc]
    rw [Nat.mul_one, Nat.add_zero] at hR
    generalize g k = u at hR
    cases hR
    rfl
theorem cell_kept {W0 w : World} {S : Nat → Prop} (hS : ∀ k, S k → k < W0.heap.size) (h : Below W0.heap.size W0 w) {B o : Nat} (hB : S B) {v : Value} (hc : W0.cell? ⟨B, o, none⟩ = some v) : w.cell? ⟨B, o, none⟩ = some v := (cell_same (h.block B (hS B hB))).trans hc
set_option maxHeartbeats 4000000 in
set_option maxRecDepth 1000000 in
theorem items_walk {W0 : World} {S : Nat → Prop} {b : Nat} {L : FV} {lv : Value} (C : Ctx W0 S b L lv) {a most : Int} {nd : FV → Int → ShS → Option ShS} (hN : NDW W0 S b lv a most nd) : IT W0 S b lv a most nd := by
  intro lb dp kd co sc up s its ks st st' v w h hl1 hl2 R hw
  obtain ⟨iv, kv, rfl, Ri, Rk, o1, o2⟩ := node_rep R
  obtain ⟨ia, ic, rfl, hic, hi⟩ := items_rep Ri
  obtain ⟨ka, kc, rfl, hkc, hk⟩ := keys_rep Rk
  have hNb : some w.heap.size ≠ some b := fun e => by
    have := hw.wr.heap.2
    have := Option.some.inj e
    omega
  have eN : (w.alloc (.cells #[.int .i64 lb, .int .i64 dp, .int .i64 kd, .int .i64 co, .int .i64 sc, .string s, .slice ia its.length ic, .slice ka ks.length kc] 42)).heap[w.heap.size]? = some (.cells #[.int .i64 lb, .int .i64 dp, .int .i64 kd, .int .i64 co, .int .i64 sc, .string s, .slice ia its.length ic, .slice ka ks.length kc] 42 (0, 0)) := heap_alloc_new w _
  have hwN := hw.alloc (.cells #[.int .i64 lb, .int .i64 dp, .int .i64 kd, .int .i64 co, .int .i64 sc, .string s, .slice ia its.length ic, .slice ka ks.length kc] 42)
  have kN := hw.wkAlloc (.cells #[.int .i64 lb, .int .i64 dp, .int .i64 kd, .int .i64 co, .int .i64 sc, .string s, .slice ia its.length ic, .slice ka ks.length kc] 42)
  go_enter Try.func96, Try.ntmps96
  go_wp2
  generalize (w.alloc (.cells #[.int .i64 lb, .int .i64 dp, .int .i64 kd, .int .i64 co, .int .i64 sc, .string s, .slice ia its.length ic, .slice ka ks.length kc] 42)) = wN at eN hwN kN ⊢
  go_loopw [11] (fun i wr => ∃ (k : Nat) (st1 : ShS), k ≤ its.length ∧ i = .int .i64 k ∧ Wst W0 b lv a most st1 wr ∧ Wk W0.heap.size b wN wr ∧ itemsF most nd kd ks up k (its.drop k) st1 = some st') (fun i _ => its.length - (intOf i).toNat)
  case atStart => exact ⟨0, st, by omega, rfl, hwN, .refl _ _ _, h⟩
  case round =>
    obtain ⟨k, st1, hkl, rfl, hW, hK, hP⟩ := hrel
    have e1 := hK.kept _ _ eN hNb (by intro c fz e; cases e)
    by_cases hkk : k < its.length
    · rw [List.drop_eq_getElem_cons hkk] at hP
      simp only [itemsF] at hP
      split at hP
      · cases hP
      rename_i hx8
      obtain ⟨lb', dp', kd', co', sc', s', its', ks', hxe⟩ := isNode_eq (x := its[k]) (by simpa using hx8)
      obtain ⟨IB, io, g, rfl, hSI, hg, hg1, Rx⟩ := hi k its[k] (List.getElem?_eq_getElem hkk) (by rw [hxe]; rfl)
      have Rx' := Rx
      rw [hxe] at Rx'
      obtain ⟨iv', kv', hag, Ri', Rk', _, _⟩ := node_rep Rx'
      obtain ⟨ia', ic', hiv, _, _⟩ := items_rep Ri'
      obtain ⟨ka', kc', hkv, _, _⟩ := keys_rep Rk'
      clear Ri' Rk' Rx'
      simp only [Value.agg.injEq, Array.mk.injEq, List.cons.injEq, and_true] at hag
      obtain ⟨g0, g1, g2, g3, g4, g5, g6, g7⟩ := hag
      rw [hiv] at g6
      rw [hkv] at g7
      clear hiv hkv
      have i0 : wr.cell? ⟨IB, io + k * 8, none⟩ = some (g 0) := cell_kept C.lt hW.below hSI (hg 0 (by omega))
      have i1 := cell_kept C.lt hW.below hSI (hg 1 (by omega))
      have i2 := cell_kept C.lt hW.below hSI (hg 2 (by omega))
      have i3 := cell_kept C.lt hW.below hSI (hg 3 (by omega))
      have i4 := cell_kept C.lt hW.below hSI (hg 4 (by omega))
      have i5 := cell_kept C.lt hW.below hSI (hg 5 (by omega))
      have i6 := cell_kept C.lt hW.below hSI (hg 6 (by omega))
      have i7 := cell_kept C.lt hW.below hSI (hg 7 (by omega))
      rw [g0, g1, g2, g3, g4, g5, g6, g7] at Rx
      rw [g0] at i0
      rw [g1] at i1
      rw [g2] at i2
      rw [g3] at i3
      rw [g4] at i4
      rw [g5] at i5
      rw [g6] at i6
      rw [g7] at i7
      clear g0 g1 g2 g3 g4 g5 g6 g7 hg hg1
      have hWX := hW.alloc (.cells #[.int .i64 lb', .int .i64 dp', .int .i64 kd', .int .i64 co', .int .i64 sc', .string s', .slice ia' its'.length ic', .slice ka' ks'.length kc'] 42)
      have kX := hW.wkAlloc (.cells #[.int .i64 lb', .int .i64 dp', .int .i64 kd', .int .i64 co', .int .i64 sc', .string s', .slice ia' its'.length ic', .slice ka' ks'.length kc'] 42)
      have eX : (wr.alloc (.cells #[.int .i64 lb', .int .i64 dp', .int .i64 kd', .int .i64 co', .int .i64 sc', .string s', .slice ia' its'.length ic', .slice ka' ks'.length kc'] 42)).heap[wr.heap.size]? = some (.cells #[.int .i64 lb', .int .i64 dp', .int .i64 kd', .int .i64 co', .int .i64 sc', .string s', .slice ia' its'.length ic', .slice ka' ks'.length kc'] 42) := heap_alloc_new wr _
      have eNX := kX.kept _ _ e1 hNb (by intro c fz e; cases e)
      have hzX : (wr.alloc (.cells #[.int .i64 lb', .int .i64 dp', .int .i64 kd', .int .i64 co', .int .i64 sc', .string s', .slice ia' its'.length ic', .slice ka' ks'.length kc'] 42)).heap.size = wr.heap.size + 1 := by simp
      have hXb : some wr.heap.size ≠ some b := fun e => by
        have := hW.wr.heap.2
        have := Option.some.inj e
        omega
      obtain ⟨c0, c1, c2, c3, c4, c5, c6, c7⟩ := cells8 eNX
      have d5 := hWX.wr.cell5
      obtain ⟨o1', f1⟩ := st1
      cases f1 with
      | true =>
        rw [if_pos rfl] at hP
        cases hP
        go_wp2
        go_returns
        exact ⟨rfl, hWX, (kN.trans hK).trans kX⟩
      | false =>
        rw [if_neg (by simp)] at hP
        obtain ⟨s1, hcm, hP1⟩ := Option.bind_eq_some_iff.1 hP
        obtain ⟨s2, hkey, hP2⟩ := Option.bind_eq_some_iff.1 hP1
        obtain ⟨st3, hnd, hP3⟩ := Option.bind_eq_some_iff.1 hP2
        clear hP hP1 hP2
        by_cases hk0 : 0 < k
        · rw [if_pos hk0] at hcm
          have hgt : decide ((k : Int) > 0) = true := decide_eq_true (by omega)
          have hp := hWX.put1 _ hcm
          rw [hzX] at hp
          go_wp2_with (go_at_call 78; refine hp.mono ?_)
          rintro e w2 ⟨rfl, h2, k2⟩
          clear hp c0 c1 c2 c3 c4 c5 c6 c7 d5
          have eN2 := k2.kept _ _ eNX hNb (by intro c fz e; cases e)
          have eX2 := k2.kept _ _ eX hXb (by intro c fz e; cases e)
          obtain ⟨c0, c1, c2, c3, c4, c5, c6, c7⟩ := cells8 eN2
          have kK := (hK.trans kX).trans k2
          by_cases h6 : kd = 6 ∧ k < ks.length
          · rw [if_pos h6] at hkey
            obtain ⟨h6a, h6b⟩ := h6
            subst h6a
            split at hkey
            · rename_i kt hkt
              obtain ⟨et, hq1, hkey⟩ := Option.bind_eq_some_iff.1 hkey
              obtain ⟨qt, hq2, hkey⟩ := Option.bind_eq_some_iff.1 hkey
              obtain ⟨KB, ko, rfl, hSK, hkc0⟩ := hk k kt hkt
              have kc1 := cell_kept C.lt h2.below hSK hkc0
              have hlt6 : ((k : Int) < (ks.length : Int)) := by omega
              have hca := C.askStr h2.below (args := #[.string kt]) hq1 ⟨.str kt, trivial⟩
              go_wp2_with (go_at_call 103; refine hca.mono ?_)
              rintro e w3 ⟨rfl, b3⟩
              clear hca c0 c1 c2 c3 c4 c5 c6 c7
              have h3 := h2.kept b3
              have k3 : Wk W0.heap.size b _ w3 := Wk.of h2.size b3
              have hcb := C.askStr h3.below (args := #[.string et]) hq2 ⟨.str et, trivial⟩
              go_wp2_with (go_at_call 80; refine hcb.mono ?_)
              rintro e w4 ⟨rfl, b4⟩
              clear hcb
              have h4 := h3.kept b4
              have k4 : Wk W0.heap.size b _ w4 := Wk.of h3.size b4
              have hp := h4.put2 _ _ hkey
              go_wp2_with (go_at_call 78; refine hp.mono ?_)
              rintro e w5 ⟨rfl, h5, k5⟩
              clear hp
              have kX9 := (k3.trans k4).trans k5
              have eX9 := kX9.kept _ _ eX2 hXb (by intro c fz e; cases e)
              obtain ⟨x0, x1, x2, x3, x4, x5, x6, x7⟩ := cells8 eX9
              have hc := hN its[k] up _ st3 _ _ hnd Rx h5
              go_wp2_with (go_at_call 61; refine hc.mono ?_)
              rintro e w9 ⟨rfl, h9, k9⟩
              clear hc
              go_wp2
              exact ⟨⟨k + 1, st3, by omega, by simp, h9, (kK.trans kX9).trans k9, hP3⟩, by simp [intOf]; omega⟩
            · cases hkey
          · rw [if_neg h6] at hkey
            cases hkey
            obtain ⟨x0, x1, x2, x3, x4, x5, x6, x7⟩ := cells8 eX2
            have hc := hN its[k] up _ st3 _ _ hnd Rx h2
            have hl6 : kd = 6 → ¬ ((k : Int) < (ks.length : Int)) := fun e1 e2 => h6 ⟨e1, by omega⟩
            by_cases hkd : kd = 6
            · have hl7 := hl6 hkd
              clear hl6 h6
              subst hkd
              go_wp2_with (go_at_call 61; refine hc.mono ?_)
              all_goals (
                rintro e w9 ⟨rfl, h9, k9⟩
                go_wp2
                exact ⟨⟨k + 1, st3, by omega, by simp, h9, kK.trans k9, hP3⟩, by simp [intOf]; omega⟩)
            · clear hl6 h6
              go_wp2_with (go_at_call 61; refine hc.mono ?_)
              all_goals (
                rintro e w9 ⟨rfl, h9, k9⟩
                go_wp2
                exact ⟨⟨k + 1, st3, by omega, by simp, h9, kK.trans k9, hP3⟩, by simp [intOf]; omega⟩)
        · rw [if_neg hk0] at hcm
          cases hcm
          have hgt : decide ((k : Int) > 0) = false := decide_eq_false (by omega)
          have kK := hK.trans kX
          have h2 := hWX
          have eX2 := eX
          by_cases h6 : kd = 6 ∧ k < ks.length
          · rw [if_pos h6] at hkey
            obtain ⟨h6a, h6b⟩ := h6
            subst h6a
            split at hkey
            · rename_i kt hkt
              obtain ⟨et, hq1, hkey⟩ := Option.bind_eq_some_iff.1 hkey
              obtain ⟨qt, hq2, hkey⟩ := Option.bind_eq_some_iff.1 hkey
              obtain ⟨KB, ko, rfl, hSK, hkc0⟩ := hk k kt hkt
              have kc1 := cell_kept C.lt h2.below hSK hkc0
              have hlt6 : ((k : Int) < (ks.length : Int)) := by omega
              have hca := C.askStr h2.below (args := #[.string kt]) hq1 ⟨.str kt, trivial⟩
              go_wp2_with (go_at_call 103; refine hca.mono ?_)
              rintro e w3 ⟨rfl, b3⟩
              clear hca c0 c1 c2 c3 c4 c5 c6 c7
              have h3 := h2.kept b3
              have k3 : Wk W0.heap.size b _ w3 := Wk.of h2.size b3
              have hcb := C.askStr h3.below (args := #[.string et]) hq2 ⟨.str et, trivial⟩
              go_wp2_with (go_at_call 80; refine hcb.mono ?_)
              rintro e w4 ⟨rfl, b4⟩
              clear hcb
              have h4 := h3.kept b4
              have k4 : Wk W0.heap.size b _ w4 := Wk.of h3.size b4
              have hp := h4.put2 _ _ hkey
              go_wp2_with (go_at_call 78; refine hp.mono ?_)
              rintro e w5 ⟨rfl, h5, k5⟩
              clear hp
              have kX9 := (k3.trans k4).trans k5
              have eX9 := kX9.kept _ _ eX2 hXb (by intro c fz e; cases e)
              obtain ⟨x0, x1, x2, x3, x4, x5, x6, x7⟩ := cells8 eX9
              have hc := hN its[k] up _ st3 _ _ hnd Rx h5
              go_wp2_with (go_at_call 61; refine hc.mono ?_)
              rintro e w9 ⟨rfl, h9, k9⟩
              clear hc
              go_wp2
              exact ⟨⟨k + 1, st3, by omega, by simp, h9, (kK.trans kX9).trans k9, hP3⟩, by simp [intOf]; omega⟩
            · cases hkey
          · rw [if_neg h6] at hkey
            cases hkey
            obtain ⟨x0, x1, x2, x3, x4, x5, x6, x7⟩ := cells8 eX2
            have hc := hN its[k] up _ st3 _ _ hnd Rx h2
            have hl6 : kd = 6 → ¬ ((k : Int) < (ks.length : Int)) := fun e1 e2 => h6 ⟨e1, by omega⟩
            by_cases hkd : kd = 6
            · have hl7 := hl6 hkd
              clear hl6 h6
              subst hkd
              go_wp2_with (go_at_call 61; refine hc.mono ?_)
              all_goals (
                rintro e w9 ⟨rfl, h9, k9⟩
                go_wp2
                exact ⟨⟨k + 1, st3, by omega, by simp, h9, kK.trans k9, hP3⟩, by simp [intOf]; omega⟩)
            · clear hl6 h6
              go_wp2_with (go_at_call 61; refine hc.mono ?_)
              all_goals (
                rintro e w9 ⟨rfl, h9, k9⟩
                go_wp2
                exact ⟨⟨k + 1, st3, by omega, by simp, h9, kK.trans k9, hP3⟩, by simp [intOf]; omega⟩)
    · have : k = its.length := by omega
      subst this
      rw [List.drop_length] at hP
      simp only [itemsF] at hP
      cases hP
      go_wp2
      go_returns
      exact ⟨rfl, hW, kN.trans hK⟩
end Go.Ab
end
section
namespace Go.Ab
open Go.Proofs Go.RowKit
set_option maxHeartbeats 4000000 in
set_option maxRecDepth 1000000 in
theorem node_walk {W0 : World} {S : Nat → Prop} {b : Nat} {L : FV} {lv : Value} (C : Ctx W0 S b L lv) {a most : Int} {nd : FV → Int → ShS → Option ShS} (hN : NDW W0 S b lv a most nd) : NDW W0 S b lv a most (nodeF L a most nd) := by
  intro x up st st' v w h R hw
  have hB := body_walk C (items_walk C hN)
  unfold nodeF at h
  split at h
  · rename_i lb dp kd co sc s its ks
    obtain ⟨j, hj, ha⟩ := Option.bind_eq_some_iff.1 h
    obtain ⟨le, hle, hb0⟩ := Option.bind_eq_some_iff.1 ha
    clear h ha
    have h := hb0
    clear hb0
    have R0 := R
    obtain ⟨iv, kv, rfl, Ri, Rk, o1, o2⟩ := node_rep R
    have eN : (w.alloc (.cells #[.int .i64 lb, .int .i64 dp, .int .i64 kd, .int .i64 co, .int .i64 sc, .string s, iv, kv] 42)).heap[w.heap.size]? = some (.cells #[.int .i64 lb, .int .i64 dp, .int .i64 kd, .int .i64 co, .int .i64 sc, .string s, iv, kv] 42 (0, 0)) := heap_alloc_new w _
    have hwN := hw.alloc (.cells #[.int .i64 lb, .int .i64 dp, .int .i64 kd, .int .i64 co, .int .i64 sc, .string s, iv, kv] 42)
    have kN := hw.wkAlloc (.cells #[.int .i64 lb, .int .i64 dp, .int .i64 kd, .int .i64 co, .int .i64 sc, .string s, iv, kv] 42)
    have hNb : some w.heap.size ≠ some b := fun e => by
      have := hw.wr.heap.2
      have := Option.some.inj e
      omega
    go_enter Try.func61, Try.ntmps61
    go_wp2
    generalize (w.alloc (.cells #[.int .i64 lb, .int .i64 dp, .int .i64 kd, .int .i64 co, .int .i64 sc, .string s, iv, kv] 42)) = wN at eN hwN kN ⊢
    obtain ⟨c0, c1, c2, c3, c4, c5, c6, c7⟩ := cells8 eN
    have d0 := hwN.wr.cell0
    have d1 := hwN.wr.cell1
    go_still_tail 7, (by kernel_rfl)
    clear c0 c1 c2 c3 c4 c5 c6 c7 d0 d1
    have hwD : Wst W0 b lv a most st wN.drew := ⟨hwN.wr, hwN.below.drew⟩
    have kD : Wk W0.heap.size b w wN.drew := ⟨kN.below.drew, kN.kept, kN.size⟩
    have eD : wN.drew.heap[w.heap.size]? = some (.cells #[.int .i64 lb, .int .i64 dp, .int .i64 kd, .int .i64 co, .int .i64 sc, .string s, iv, kv] 42 (0, 0)) := eN
    change wpList _ _ _ _ _ wN.drew
    generalize wN.drew = wD at hwD kD eD ⊢
    clear eN hwN kN
    have hcJ := C.askInt hwD.below (args := #[lv, .int .i64 up, .int .i64 lb]) hj ⟨C.rep_in hwD.below C.rep, .int _ _, .int _ _, trivial⟩
    go_wp2_with (go_at_call 77; refine hcJ.mono ?_)
    rintro e w1 ⟨rfl, b1⟩
    clear hcJ
    have h1 := hwD.kept b1
    have k1 : Wk W0.heap.size b _ w1 := Wk.of hwD.size b1
    have e1 := k1.kept _ _ eD hNb (by intro c fz e; cases e)
    have kk1 := kD.trans k1
    have d0 := h1.wr.cell0
    have d1 := h1.wr.cell1
    go_wp2_with fail
    go_still_tail 9, (by kernel_rfl)
    have hwE : Wst W0 b lv a most st w1.drew := ⟨h1.wr, h1.below.drew⟩
    have kE : Wk W0.heap.size b w w1.drew := ⟨kk1.below.drew, kk1.kept, kk1.size⟩
    have eE : w1.drew.heap[w.heap.size]? = some (.cells #[.int .i64 lb, .int .i64 dp, .int .i64 kd, .int .i64 co, .int .i64 sc, .string s, iv, kv] 42 (0, 0)) := e1
    clear d0 d1 e1 eD hwD kD k1 kk1
    change wpList _ _ _ _ _ w1.drew
    generalize w1.drew = wE at hwE kE eE ⊢
    have hcL := C.askBool hwE.below (args := #[lv, .int .i64 j, .int .i64 a]) hle ⟨C.rep_in hwE.below C.rep, .int _ _, .int _ _, trivial⟩
    go_wp2_with (go_at_call 18; refine hcL.mono ?_)
    rintro e w2 ⟨rfl, b2⟩
    clear hcL
    have h2 := hwE.kept b2
    have k2 : Wk W0.heap.size b _ w2 := Wk.of hwE.size b2
    have e2 := k2.kept _ _ eE hNb (by intro c fz e; cases e)
    have kk2 := kE.trans k2
    clear eE hwE kE k2 b2 b1 h1
    cases le with
    | false =>
      rw [if_pos rfl] at h
      have hp := h2.put1 _ h
      go_wp2_with (go_at_call 78; refine hp.mono ?_)
      rintro e w3 ⟨rfl, h3, k3⟩
      go_wp2
      go_returns
      exact ⟨rfl, h3, kk2.trans k3⟩
    | true =>
      rw [if_neg (by simp)] at h
      obtain ⟨c0, c1, c2, c3, c4, c5, c6, c7⟩ := cells8 e2
      by_cases hju : j = up
      · rw [if_pos hju] at h
        subst hju
        have hb := hB _ _ _ _ _ _ h R0 h2
        go_wp2_with (go_at_call 79; refine hb.mono ?_)
        rintro e w3 ⟨rfl, h3, k3⟩
        go_wp2
        go_returns
        exact ⟨rfl, h3, kk2.trans k3⟩
      · rw [if_neg hju] at h
        obtain ⟨t, hq1, ha1⟩ := Option.bind_eq_some_iff.1 h
        obtain ⟨q, hq2, ha2⟩ := Option.bind_eq_some_iff.1 ha1
        obtain ⟨s1, hp1, ha3⟩ := Option.bind_eq_some_iff.1 ha2
        obtain ⟨s2, hb2, ha4⟩ := Option.bind_eq_some_iff.1 ha3
        clear h ha1 ha2 ha3
        have h := ha4
        clear ha4
        have d0 := h2.wr.cell0
        have hca := C.askStr h2.below (args := #[lv, .int .i64 j]) hq1 ⟨C.rep_in h2.below C.rep, .int _ _, trivial⟩
        go_wp2_with (go_at_call 34; refine hca.mono ?_)
        rintro e w3 ⟨rfl, b3⟩
        clear hca d0 c0 c1 c2 c3 c4 c5 c6 c7
        have h3 := h2.kept b3
        have k3 : Wk W0.heap.size b _ w3 := Wk.of h2.size b3
        have hcb := C.askStr h3.below (args := #[.string t]) hq2 ⟨.str t, trivial⟩
        go_wp2_with (go_at_call 80; refine hcb.mono ?_)
        rintro e w4 ⟨rfl, b4⟩
        clear hcb
        have h4 := h3.kept b4
        have k4 : Wk W0.heap.size b _ w4 := Wk.of h3.size b4
        have hp := h4.put3 _ _ _ hp1
        go_wp2_with (go_at_call 78; refine hp.mono ?_)
        rintro e w5 ⟨rfl, h5, k5⟩
        clear hp
        have kk5 := (k3.trans k4).trans k5
        have e5 := kk5.kept _ _ e2 hNb (by intro c fz e; cases e)
        obtain ⟨c0, c1, c2, c3, c4, c5, c6, c7⟩ := cells8 e5
        have hb := hB _ _ _ _ _ _ hb2 R0 h5
        go_wp2_with (go_at_call 79; refine hb.mono ?_)
        rintro e w6 ⟨rfl, h6, k6⟩
        clear hb c0 c1 c2 c3 c4 c5 c6 c7
        have hp := h6.put1 _ h
        go_wp2_with (go_at_call 78; refine hp.mono ?_)
        rintro e w7 ⟨rfl, h7, k7⟩
        go_wp2
        go_returns
        exact ⟨rfl, h7, ((kk2.trans kk5).trans k6).trans k7⟩
  · cases h
theorem nodeS_walk {W0 : World} {S : Nat → Prop} {b : Nat} {L : FV} {lv : Value} (C : Ctx W0 S b L lv) {a most : Int} : ∀ n, NDW W0 S b lv a most (nodeS L a most n)
  | 0 => fun x up st st' v w h => by cases h
  | n + 1 => node_walk C (nodeS_walk C n)
end Go.Ab
end
section
namespace Go.Ab
open Go.Proofs Go.RowKit
def SP (B : Nat) (out : List UInt8) (w : World) (e : Ending) (w' : World) : Prop := e = .returned (.string ⟨out.toArray⟩) ∧ Below B w w'
theorem WR.str {B b : Nat} {l : Value} {a most : Int} {full : Bool} {out : List UInt8} {w : World} (h : WR B b l a most full out w) :
    Calls Try.prog 36 #[.pointer (some ⟨b, 2, none⟩)] w (SP B out w) := by
  obtain ⟨cs, hI, _⟩ := h
  exact (E_String Try.lays169 Try.Builder_Extra_105 (T := 118) hI).mono fun e w' h => ⟨h.1, h.2.1⟩
noncomputable def showS (L x : FV) (a most : Int) : Option ShS :=
  if (L.isPt || L.isNil) = false ∨ isNode x = false then none else (qInt 62 [L]).bind fun j => nodeS L a most 100000 x j ([], false)
def showAns (r : ShS) : Value := if r.2 = true then .tuple #[.string ⟨#[]⟩, .bool false] else .tuple #[.string ⟨r.1.toArray⟩, .bool true]
theorem fresh_wr2 (w : World) (o : Obj) (p : Option Addr) (a most : Int) : WR w.heap.size (w.heap.size + 1) (.pointer p) a most false [] ((w.alloc o).alloc (.cells #[.pointer p, .int .i64 a, .pointer none, .slice none 0 0, .int .i64 most, .bool false] 118)) := by
  have hz : (w.alloc o).heap.size = w.heap.size + 1 := by simp
  refine ⟨#[.pointer p, .int .i64 a, .pointer none, .slice none 0 0, .int .i64 most, .bool false], .inl ⟨by omega, ?_, rfl, .slice none 0 0, rfl, ⟨rfl, .inl ⟨rfl, rfl⟩⟩, by simp [Value.ownBlock], fun _ => rfl⟩, rfl, rfl, rfl, rfl, rfl⟩
  rw [← hz]
  exact heap_alloc_new _ _
set_option maxHeartbeats 8000000 in
set_option maxRecDepth 1000000 in
theorem text_walk {w : World} {S : Nat → Prop} {L x : FV} {lv v : Value} {a most : Int} {r : ShS} (hS : ∀ k, S k → k < w.heap.size) (hG : GlobOK Try.prog w (fun b => b < w.heap.size)) (RL : Rep w S L lv) (R : Rep w S x v) (h : showS L x a most = some r) :
    Calls Try.prog 31 #[lv, v, .int .i64 a, .int .i64 most] w fun e w' => e = .returned (showAns r) ∧ Below w.heap.size w w' := by
  unfold showS at h
  split at h
  · cases h
  rename_i hc
  obtain ⟨j, hj, hn⟩ := Option.bind_eq_some_iff.1 h
  obtain ⟨hc1, hc2⟩ := not_or.1 hc
  obtain ⟨p, rfl⟩ : ∃ p, lv = .pointer p := by
    cases RL <;> first | exact ⟨_, rfl⟩ | (exact absurd rfl hc1)
  obtain ⟨lb, dp, kd, co, sc, s, its, ks, rfl⟩ := isNode_eq (x := x) (by simpa using hc2)
  have R0 := R
  obtain ⟨iv, kv, rfl, Ri, Rk, o1, o2⟩ := node_rep R
  obtain ⟨ia, ic, rfl, _, _⟩ := items_rep Ri
  obtain ⟨ka, kc, rfl, _, _⟩ := keys_rep Rk
  clear h hc hc1 hc2 Ri Rk o1 o2 R
  have hw0 := fresh_wr2 w (.cells #[.int .i64 lb, .int .i64 dp, .int .i64 kd, .int .i64 co, .int .i64 sc, .string s, .slice ia its.length ic, .slice ka ks.length kc] 42) p a most
  have eN0 : ((w.alloc (.cells #[.int .i64 lb, .int .i64 dp, .int .i64 kd, .int .i64 co, .int .i64 sc, .string s, .slice ia its.length ic, .slice ka ks.length kc] 42)).alloc (.cells #[.pointer p, .int .i64 a, .pointer none, .slice none 0 0, .int .i64 most, .bool false] 118)).heap[w.heap.size]? = some (.cells #[.int .i64 lb, .int .i64 dp, .int .i64 kd, .int .i64 co, .int .i64 sc, .string s, .slice ia its.length ic, .slice ka ks.length kc] 42 (0, 0)) := by
    rw [Lib.alloc_old _ _ _ (by simp)]
    exact heap_alloc_new w _
  have b0 : Below w.heap.size w ((w.alloc (.cells #[.int .i64 lb, .int .i64 dp, .int .i64 kd, .int .i64 co, .int .i64 sc, .string s, .slice ia its.length ic, .slice ka ks.length kc] 42)).alloc (.cells #[.pointer p, .int .i64 a, .pointer none, .slice none 0 0, .int .i64 most, .bool false] 118)) := (alloc_wk w _).trans (below_down (by simp) (alloc_wk _ _))
  have C : Ctx w S (w.heap.size + 1) L (.pointer p) := ⟨hS, hG, RL, by omega⟩
  have hND := nodeS_walk C (a := a) (most := most) 100000
  go_enter Try.func31, Try.ntmps31
  go_wp2
  generalize ((w.alloc (.cells #[.int .i64 lb, .int .i64 dp, .int .i64 kd, .int .i64 co, .int .i64 sc, .string s, .slice ia its.length ic, .slice ka ks.length kc] 42)).alloc (.cells #[.pointer p, .int .i64 a, .pointer none, .slice none 0 0, .int .i64 most, .bool false] 118)) = w2 at hw0 eN0 b0 ⊢
  have hwD : Wst w (w.heap.size + 1) (.pointer p) a most ([], false) w2.drew := ⟨hw0, b0.drew⟩
  have hcB := C.askInt hwD.below (args := #[.pointer p]) hj ⟨C.rep_in hwD.below RL, trivial⟩
  have hNb : some w.heap.size ≠ some (w.heap.size + 1) := fun e => by
    have := Option.some.inj e
    omega
  obtain ⟨c0, c1, c2, c3, c4, c5, c6, c7⟩ := cells8 eN0
  go_region_with (first
    | (go_at_call 62; refine hcB.mono ?_; rintro e w3 ⟨rfl, b3⟩; have h3 := hwD.kept b3; have e3 := (b3.block w.heap.size (Array.getElem?_eq_some_iff.1 eN0).1).trans eN0; obtain ⟨x0, x1, x2, x3, x4, x5, x6, x7⟩ := cells8 e3; have hcN := hND _ _ _ _ _ _ hn R0 h3)
    | (go_at_call 61; refine hcN.mono ?_; rintro e w4 ⟨rfl, h4, k4⟩))
  all_goals (
    clear c0 c1 c2 c3 c4 c5 c6 c7 hcB
    have d5 := h4.wr.cell5
    have hst := h4.wr.str
    obtain ⟨o4, f4⟩ := r
    cases f4 with
    | true =>
      go_wp2
      exact bodyPost_ret (results_tmp2 (fn := Try.f31) (t := 8) (u := 9) rfl _ _ _) rfl ⟨rfl, h4.below⟩
    | false =>
      go_wp2_with (go_at_call 36; refine hst.mono ?_)
      rintro e w5 ⟨rfl, b5⟩
      go_wp2
      exact bodyPost_ret (results_tmp2 (fn := Try.f31) (t := 8) (u := 9) rfl _ _ _) rfl ⟨rfl, h4.below.trans b5⟩)
noncomputable def showP (ts : List TV) : Option Ans := match ts with
  | [.fz L, .fz x, .fz (.int .i64 a), .fz (.int .i64 most)] => (showS L x a most).bind fun r => some (if r.2 = true then ([.fz (.str ⟨#[]⟩), .fz (.bool false)], []) else ([.fz (.str ⟨r.1.toArray⟩), .fz (.bool true)], []))
  | _ => none
theorem repTs_four {W : World} {S : Nat → Prop} {e1 e2 e3 e4 : FV} {args : Array Value} {Bs : List Nat} (h : RepTs W S [.fz e1, .fz e2, .fz e3, .fz e4] args.toList Bs) : ∃ x y z u, args = #[x, y, z, u] ∧ Bs = [] ∧ Rep W S e1 x ∧ Rep W S e2 y ∧ Rep W S e3 z ∧ Rep W S e4 u := by
  obtain ⟨l⟩ := args
  match l, h with
  | [x, y, z, u], h =>
    obtain ⟨B, Bs1, ⟨rfl, R1⟩, ⟨B2, Bs2, ⟨rfl, R2⟩, ⟨B3, Bs3, ⟨rfl, R3⟩, ⟨B4, Bs4, ⟨rfl, R4⟩, h5, hB4⟩, hB3⟩, hB2⟩, hB⟩ := h
    simp only [RepTs] at h5
    simp only at hB hB2 hB3 hB4
    exact ⟨x, y, z, u, rfl, by rw [hB, hB2, hB3, hB4, h5], R1, R2, R3, R4⟩
  | [], h => exact h.elim
  | [x], h => obtain ⟨_, _, _, h, _⟩ := h; exact h.elim
  | [x, y], h => obtain ⟨_, _, _, ⟨_, _, _, h, _⟩, _⟩ := h; exact h.elim
  | [x, y, z], h => obtain ⟨_, _, _, ⟨_, _, _, ⟨_, _, _, h, _⟩, _⟩, _⟩ := h; exact h.elim
  | x :: y :: z :: u :: v :: r, h => obtain ⟨_, _, _, ⟨_, _, _, ⟨_, _, _, ⟨_, _, _, h, _⟩, _⟩, _⟩, _⟩ := h; exact h.elim
theorem show_prim : ∀ ts r, showP ts = some r → CallOK Try.prog 31 ts r := by
  intro ts r e
  unfold showP at e
  split at e
  · rename_i L x a most
    obtain ⟨s, hs, e⟩ := Option.bind_eq_some_iff.1 e
    cases e
    intro W S args Bs hlt hglob hT
    obtain ⟨v1, v2, v3, v4, rfl, rfl, R1, R2, R3, R4⟩ := repTs_four hT
    cases R3
    cases R4
    refine (text_walk hlt (hglob.mono hlt fun _ _ => rfl) R1 R2 hs).mono fun ex W' hp => ?_
    obtain ⟨rfl, b⟩ := hp
    unfold showAns
    have hts : ∀ t ∈ [TV.fz L, TV.fz x, TV.fz (.int .i64 a), TV.fz (.int .i64 most)], ∃ e, t = TV.fz e := fun t ht => by
      simp only [List.mem_cons, List.not_mem_nil, or_false] at ht
      rcases ht with rfl | rfl | rfl | rfl <;> exact ⟨_, rfl⟩
    obtain ⟨o, f⟩ := s
    cases f with
    | true => exact ans_two hts rfl hlt b (.str _) (.bool _)
    | false => exact ans_two hts rfl hlt b (.str _) (.bool _)
  · cases e
noncomputable def A_show : AFunc := ⟨4, [], .skip, some showP⟩
end Go.Ab
end
section
namespace Go.Ab
open Go.Proofs
noncomputable def tab2 : Nat → Option AFunc
  | 12 => some A_ledger_Text
  | 32 => some A_ledger_quoted
  | 33 => some A_ledger_number
  | 31 => some A_show
  | f => tab1 f
noncomputable def Rt2 : Orc := RR tab2
theorem rt_call2 {f : Nat} (af : AFunc) {ts : List TV} {r : Ans} (hf : tab2 f = some af) (hl : (af.prim.isNone && (ts.length == af.np && Nat.blt af.np 1000)) = true) (k : Nat) (h : callL Rt2 k true af ts = some r) : Rt2 f ts = some r := RR_call af hf hl k h
theorem rt_prim2 {f : Nat} {af : AFunc} {p : List TV → Option Ans} {ts : List TV} {r : Ans} (hf : tab2 f = some af) (hp : af.prim = some p) (h : p ts = some r) : Rt2 f ts = some r := RR_prim hf hp h
set_option maxRecDepth 100000
theorem cf12 : compF Try.prog mds (livesBy Lv Tv 12) 12 Try.f12 = some A_ledger_Text := by kernel_rfl
theorem cf32 : compF Try.prog mds (livesBy Lv Tv 32) 32 Try.f32 = some A_ledger_quoted := by kernel_rfl
theorem cf33 : compF Try.prog mds (livesBy Lv Tv 33) 33 Try.f33 = some A_ledger_number := by kernel_rfl
theorem tab2_ok : TabOK Try.prog mds (livesBy Lv Tv) tab2 := by
  intro f af h
  unfold tab2 at h
  split at h
  · cases h; exact .inl ⟨Try.f12, by kernel_rfl, cf12⟩
  · cases h; exact .inl ⟨Try.f32, by kernel_rfl, cf32⟩
  · cases h; exact .inl ⟨Try.f33, by kernel_rfl, cf33⟩
  · cases h; exact .inr ⟨Try.f31, _, rfl, by kernel_rfl, by kernel_rfl, by kernel_rfl, show_prim⟩
  · exact tab1_ok f af h
theorem lift12 {f : Nat} {ts : List TV} {r : Ans} (h : Rt1 f ts = some r) : Rt2 f ts = some r := RR_sub (fun f af h => by (unfold tab1 at h; split at h <;> first | (cases h; rfl) | (unfold tab0 at h; split at h <;> cases h <;> rfl))) h
end Go.Ab
end
section
namespace Go.Ab
open Go.Proofs Go.RowKit
def isEnt : FV → Bool
  | .ag [.str _, .int .i64 _, .int .i64 _, .int .i64 _, .int .i64 _, .int .i64 _, .int .i64 _, .int .i64 _, .int .i64 _, .str _, .sl _, .sl _] => true
  | _ => false
theorem isEnt_eq {x : FV} (h : isEnt x = true) : ∃ b at0 fr to0 lb dp kd co sc s its ks, x = .ag [.str b, .int .i64 at0, .int .i64 fr, .int .i64 to0, .int .i64 lb, .int .i64 dp, .int .i64 kd, .int .i64 co, .int .i64 sc, .str s, .sl its, .sl ks] := by
  unfold isEnt at h
  split at h
  · exact ⟨_, _, _, _, _, _, _, _, _, _, _, _, rfl⟩
  · cases h
noncomputable def q2Str (f : Nat) (fs : List FV) : Option ByteArray := match Rt2 f (fs.map .fz) with | some ([.fz (.str s)], []) => some s | _ => none
theorem q2Str_some {f : Nat} {fs : List FV} {n : ByteArray} (h : q2Str f fs = some n) : Rt2 f (fs.map .fz) = some ([.fz (.str n)], []) := by
  unfold q2Str at h
  split at h
  · rename_i e' he; cases h; exact he
  · cases h
noncomputable def linesF (L : FV) : List FV → List UInt8 → Option (List UInt8)
  | [], out => some out
  | x :: r, out => if isEnt x = false then none else (q2Str 12 [L, x]).bind fun t => if 140737488355328 < out.length + (t.size + 1) then none else linesF L r (out ++ (t.data.toList ++ [10]))
noncomputable def linesS (L : FV) (es : List FV) : Option (List UInt8) := if 140737488355328 < es.length then none else linesF L es []
theorem ent_rep {W : World} {S : Nat → Prop} {b s : ByteArray} {at0 fr to0 lb dp kd co sc : Int} {its ks : List FV} {v : Value} (h : Rep W S (.ag [.str b, .int .i64 at0, .int .i64 fr, .int .i64 to0, .int .i64 lb, .int .i64 dp, .int .i64 kd, .int .i64 co, .int .i64 sc, .str s, .sl its, .sl ks]) v) :
    ∃ ia il ic ka kl kc, v = .agg #[.string b, .int .i64 at0, .int .i64 fr, .int .i64 to0, .int .i64 lb, .int .i64 dp, .int .i64 kd, .int .i64 co, .int .i64 sc, .string s, .slice ia il ic, .slice ka kl kc] := by
  cases h with
  | ag cs vs hl h1 h =>
    obtain ⟨l⟩ := vs
    match l, hl with
    | [v0, v1, v2, v3, v4, v5, v6, v7, v8, v9, v10, v11], _ =>
      have e0 := h 0 _ v0 rfl rfl
      have e1 := h 1 _ v1 rfl rfl
      have e2 := h 2 _ v2 rfl rfl
      have e3 := h 3 _ v3 rfl rfl
      have e4 := h 4 _ v4 rfl rfl
      have e5 := h 5 _ v5 rfl rfl
      have e6 := h 6 _ v6 rfl rfl
      have e7 := h 7 _ v7 rfl rfl
      have e8 := h 8 _ v8 rfl rfl
      have e9 := h 9 _ v9 rfl rfl
      have e10 := h 10 _ v10 rfl rfl
      have e11 := h 11 _ v11 rfl rfl
      cases e0; cases e1; cases e2; cases e3; cases e4; cases e5; cases e6; cases e7; cases e8; cases e9
      obtain ⟨ia, il, ic, rfl⟩ : ∃ ia il ic, v10 = .slice ia il ic := by cases e10 <;> exact ⟨_, _, _, rfl⟩
      obtain ⟨ka, kl, kc, rfl⟩ : ∃ ia il ic, v11 = .slice ia il ic := by cases e11 <;> exact ⟨_, _, _, rfl⟩
      exact ⟨ia, il, ic, ka, kl, kc, rfl⟩
theorem ents_rep {W : World} {S : Nat → Prop} {its : List FV} {iv : Value} (h : Rep W S (.sl its) iv) : ∃ ad cap, iv = .slice ad its.length cap ∧ its.length ≤ cap ∧ ∀ k x, its[k]? = some x → x.isAg 12 = true → ∃ (B off : Nat) (g : Nat → Value), ad = some ⟨B, off, none⟩ ∧ S B ∧ (∀ j, j < 12 → W.cell? ⟨B, off + k * 12 + j, none⟩ = some (g j)) ∧ (∀ j, j < 12 → (g j).oneCell' = true) ∧ Rep W S x (.agg #[g 0, g 1, g 2, g 3, g 4, g 5, g 6, g 7, g 8, g 9, g 10, g 11]) := by
  cases h with
  | sl0 a cap => exact ⟨a, cap, rfl, Nat.zero_le _, fun k x h => by simp at h⟩
  | sl _ B off cap sz agg g hS hcap hf hc h1 hh =>
    refine ⟨some ⟨B, off, none⟩, cap, rfl, hcap, fun k x hk hx => ?_⟩
    have hkl : k < its.length := (List.getElem?_eq_some_iff.1 hk).1
    have hfx := hf x (List.mem_of_getElem? hk)
    obtain ⟨cs, rfl⟩ : ∃ cs, x = .ag cs := by cases x <;> first | (cases hx; done) | exact ⟨_, rfl⟩
    have h8 : cs.length = 12 := by simpa [FV.isAg] using hx
    obtain ⟨rfl, rfl⟩ : agg = true ∧ sz = 12 := by
      cases agg with
      | true => simp only [FV.fits, FV.isAg, beq_iff_eq] at hfx; exact ⟨rfl, by omega⟩
      | false => simp [FV.fits] at hfx
    have hb : ∀ j, j < 12 → k * 12 + j < its.length * 12 := fun j hj => by omega
    have hv0 : ∀ (j : Nat) (v : Value), (#[g (k * 12 + 0), g (k * 12 + 1), g (k * 12 + 2), g (k * 12 + 3), g (k * 12 + 4), g (k * 12 + 5), g (k * 12 + 6), g (k * 12 + 7), g (k * 12 + 8), g (k * 12 + 9), g (k * 12 + 10), g (k * 12 + 11)] : Array Value)[j]? = some v → j < 12 ∧ v = g (k * 12 + j) := by
      intro j v hv
      have hj : j < 12 := (Array.getElem?_eq_some_iff.1 hv).1
      refine ⟨hj, ?_⟩
      match j, hj, hv with
      | 0, _, hv => exact (Option.some.inj hv).symm
      | 1, _, hv => exact (Option.some.inj hv).symm
      | 2, _, hv => exact (Option.some.inj hv).symm
      | 3, _, hv => exact (Option.some.inj hv).symm
      | 4, _, hv => exact (Option.some.inj hv).symm
      | 5, _, hv => exact (Option.some.inj hv).symm
      | 6, _, hv => exact (Option.some.inj hv).symm
      | 7, _, hv => exact (Option.some.inj hv).symm
      | 8, _, hv => exact (Option.some.inj hv).symm
      | 9, _, hv => exact (Option.some.inj hv).symm
      | 10, _, hv => exact (Option.some.inj hv).symm
      | 11, _, hv => exact (Option.some.inj hv).symm
    refine ⟨B, off, fun j => g (k * 12 + j), rfl, hS, fun j hj => by rw [Nat.add_assoc]; exact hc _ (hb j hj), fun j hj => h1 _ (hb j hj), ?_⟩
    refine .ag _ _ (by simp [h8]) (fun j v hv => ?_) fun j e v he hv => ?_
    · obtain ⟨hj, rfl⟩ := hv0 j v hv
      exact h1 _ (hb j hj)
    · obtain ⟨hj, rfl⟩ := hv0 j v hv
      exact hh k _ j e hk he
theorem cell_kept2 {W0 w : World} {S : Nat → Prop} (hS : ∀ k, S k → k < W0.heap.size) (h : Below W0.heap.size W0 w) {B o : Nat} (hB : S B) {v : Value} (hc : W0.cell? ⟨B, o, none⟩ = some v) : w.cell? ⟨B, o, none⟩ = some v := (cell_same (h.block B (hS B hB))).trans hc
theorem rep_below {W0 w : World} {S : Nat → Prop} (hS : ∀ k, S k → k < W0.heap.size) {e : FV} {v : Value} (r : Rep W0 S e v) (h : Below W0.heap.size W0 w) : Rep w (fun k => k < w.heap.size) e v :=
  r.mono (fun k hk => Nat.lt_of_lt_of_le (hS k hk) h.size) fun k hk => h.block k (hS k hk)
def LP (out : List UInt8) (w : World) (e : Ending) (w' : World) : Prop := e = .returned (.string ⟨out.toArray⟩) ∧ Below w.heap.size w w'
def WSP (B b : Nat) (bs : List Value) (w : World) (n : Int) (e : Ending) (w' : World) : Prop := e = .returned (.tuple #[.int .i64 n, .nilIface]) ∧ Lib.IsBuilderF 87 5 B b bs w' ∧ Below B w w'
theorem wstr {B b : Nat} {l : List UInt8} {w : World} (h : Lib.IsBuilderF 87 5 B b (Lib.byteCells l) w) (s : ByteArray) (hlen : l.length + s.size ≤ 140737488355328) (hBw : B ≤ w.heap.size) : Calls Try.prog 35 #[.pointer (some ⟨b, 0, none⟩), .string s] w (WSP B b (Lib.byteCells (l ++ s.data.toList)) w s.size) :=
  (Try.Builder_WriteString_k B b _ s w h (by rw [Lib.byteCells_length]; exact hlen) hBw).mono fun e w' ⟨h1, h2, h3, _⟩ => ⟨h1, by rw [Lib.byteCells_append]; exact Or.inr h2, h3⟩
def StP (out : List UInt8) (B : Nat) (w : World) (e : Ending) (w' : World) : Prop := e = .returned (.string ⟨out.toArray⟩) ∧ Below B w w'
theorem bstr {B b : Nat} {l : List UInt8} {w : World} (h : Lib.IsBuilderF 87 5 B b (Lib.byteCells l) w) (hBw : B ≤ w.heap.size) : Calls Try.prog 36 #[.pointer (some ⟨b, 0, none⟩)] w (StP l B w) :=
  (Try.Builder_String_any_k B b l w h hBw).mono fun e w' ⟨h1, _, h3, _⟩ => ⟨h1, h3⟩
theorem cells12 {w : World} {N : Nat} {v0 v1 v2 v3 v4 v5 v6 v7 v8 v9 v10 v11 : Value} {T : TypeId} {fz : Nat × Nat} (h : w.heap[N]? = some (.cells #[v0, v1, v2, v3, v4, v5, v6, v7, v8, v9, v10, v11] T fz)) :
    w.cell? ⟨N, 0, none⟩ = some v0 ∧ w.cell? ⟨N, 1, none⟩ = some v1 ∧ w.cell? ⟨N, 2, none⟩ = some v2 ∧ w.cell? ⟨N, 3, none⟩ = some v3 ∧ w.cell? ⟨N, 4, none⟩ = some v4 ∧ w.cell? ⟨N, 5, none⟩ = some v5 ∧ w.cell? ⟨N, 6, none⟩ = some v6 ∧ w.cell? ⟨N, 7, none⟩ = some v7 ∧ w.cell? ⟨N, 8, none⟩ = some v8 ∧ w.cell? ⟨N, 9, none⟩ = some v9 ∧ w.cell? ⟨N, 10, none⟩ = some v10 ∧ w.cell? ⟨N, 11, none⟩ = some v11 := by
  refine ⟨?_, ?_, ?_, ?_, ?_, ?_, ?_, ?_, ?_, ?_, ?_, ?_⟩ <;> (rw [Lib.cell_of_heap h]; rfl)
set_option maxHeartbeats 8000000 in
set_option maxRecDepth 1000000 in
theorem lines_walk {w : World} {S : Nat → Prop} {L : FV} {es : List FV} {lv ev : Value} {out : List UInt8} (hS : ∀ k, S k → k < w.heap.size) (hG : GlobOK Try.prog w (fun b => b < w.heap.size)) (RL : Rep w S L lv) (RE : Rep w S (.sl es) ev) (h : linesS L es = some out) :
    Calls Try.prog 13 #[lv, ev] w (LP out w) := by
  unfold linesS at h
  split at h
  · cases h
  rename_i hlen
  obtain ⟨ea, ec, rfl, hec, hi⟩ := ents_rep RE
  have hI0 : Lib.IsBuilderF 87 5 w.heap.size w.heap.size [] (w.alloc (.cells #[.pointer none, .slice none 0 0] 87)) := Lib.IsBuilderF.of (Lib.fresh_isBuilder 87 5 w)
  have b0 : Below w.heap.size w (w.alloc (.cells #[.pointer none, .slice none 0 0] 87)) := (Below.refl _ _).alloc (Nat.le_refl _) _
  have z0 : w.heap.size < (w.alloc (.cells #[.pointer none, .slice none 0 0] 87)).heap.size := alloc_lt _ _
  go_enter Try.func13, Try.ntmps13
  go_wp2
  generalize (w.alloc (.cells #[.pointer none, .slice none 0 0] 87)) = w1 at hI0 b0 z0 ⊢
  go_loopw [10] (fun i wr => ∃ (k : Nat) (acc : List UInt8), k ≤ es.length ∧ i = .int .i64 k ∧ Lib.IsBuilderF 87 5 w.heap.size w.heap.size (Lib.byteCells acc) wr ∧ Below w.heap.size w wr ∧ w.heap.size < wr.heap.size ∧ linesF L (es.drop k) acc = some out) (fun i _ => es.length - (intOf i).toNat)
  case atStart => exact ⟨0, [], by omega, rfl, hI0, b0, z0, h⟩
  case round =>
    obtain ⟨k, acc, hkl, rfl, hI, hB, hz, hP⟩ := hrel
    by_cases hkk : k < es.length
    · rw [List.drop_eq_getElem_cons hkk] at hP
      simp only [linesF] at hP
      split at hP
      · cases hP
      rename_i hx8
      obtain ⟨t, hq, hP1⟩ := Option.bind_eq_some_iff.1 hP
      split at hP1
      · cases hP1
      rename_i hroom
      clear hP
      obtain ⟨b, at0, fr, to0, lb, dp, kd, co, sc, s, its, ks, hxe⟩ := isEnt_eq (x := es[k]) (by simpa using hx8)
      obtain ⟨IB, io, g, rfl, hSI, hg, hg1, Rx⟩ := hi k es[k] (List.getElem?_eq_getElem hkk) (by rw [hxe]; rfl)
      have Rx' := Rx
      rw [hxe] at Rx'
      obtain ⟨ia, il, ic, ka, kl, kc, hag⟩ := ent_rep Rx'
      clear Rx'
      simp only [Value.agg.injEq, Array.mk.injEq, List.cons.injEq, and_true] at hag
      obtain ⟨g0, g1, g2, g3, g4, g5, g6, g7, g8, g9, g10, g11⟩ := hag
      have i0 : wr.cell? ⟨IB, io + k * 12, none⟩ = some (g 0) := cell_kept2 hS hB hSI (hg 0 (by omega))
      have i1 := cell_kept2 hS hB hSI (hg 1 (by omega))
      have i2 := cell_kept2 hS hB hSI (hg 2 (by omega))
      have i3 := cell_kept2 hS hB hSI (hg 3 (by omega))
      have i4 := cell_kept2 hS hB hSI (hg 4 (by omega))
      have i5 := cell_kept2 hS hB hSI (hg 5 (by omega))
      have i6 := cell_kept2 hS hB hSI (hg 6 (by omega))
      have i7 := cell_kept2 hS hB hSI (hg 7 (by omega))
      have i8 := cell_kept2 hS hB hSI (hg 8 (by omega))
      have i9 := cell_kept2 hS hB hSI (hg 9 (by omega))
      have i10 := cell_kept2 hS hB hSI (hg 10 (by omega))
      have i11 := cell_kept2 hS hB hSI (hg 11 (by omega))
      rw [g0, g1, g2, g3, g4, g5, g6, g7, g8, g9, g10, g11] at Rx
      rw [g0] at i0
      rw [g1] at i1
      rw [g2] at i2
      rw [g3] at i3
      rw [g4] at i4
      rw [g5] at i5
      rw [g6] at i6
      rw [g7] at i7
      rw [g8] at i8
      rw [g9] at i9
      rw [g10] at i10
      rw [g11] at i11
      clear g0 g1 g2 g3 g4 g5 g6 g7 g8 g9 g10 g11 hg hg1
      have eX : (wr.alloc (.cells #[.string b, .int .i64 at0, .int .i64 fr, .int .i64 to0, .int .i64 lb, .int .i64 dp, .int .i64 kd, .int .i64 co, .int .i64 sc, .string s, .slice ia il ic, .slice ka kl kc] 44)).heap[wr.heap.size]? = some (.cells #[.string b, .int .i64 at0, .int .i64 fr, .int .i64 to0, .int .i64 lb, .int .i64 dp, .int .i64 kd, .int .i64 co, .int .i64 sc, .string s, .slice ia il ic, .slice ka kl kc] 44) := heap_alloc_new wr _
      have bX : Below w.heap.size w (wr.alloc (.cells #[.string b, .int .i64 at0, .int .i64 fr, .int .i64 to0, .int .i64 lb, .int .i64 dp, .int .i64 kd, .int .i64 co, .int .i64 sc, .string s, .slice ia il ic, .slice ka kl kc] 44)) := hB.alloc hB.size _
      have hIX : Lib.IsBuilderF 87 5 w.heap.size w.heap.size (Lib.byteCells acc) (wr.alloc (.cells #[.string b, .int .i64 at0, .int .i64 fr, .int .i64 to0, .int .i64 lb, .int .i64 dp, .int .i64 kd, .int .i64 co, .int .i64 sc, .string s, .slice ia il ic, .slice ka kl kc] 44)) := builderF_below hI ((Below.refl _ _).alloc (Nat.le_refl _) _)
      have zX : w.heap.size < (wr.alloc (.cells #[.string b, .int .i64 at0, .int .i64 fr, .int .i64 to0, .int .i64 lb, .int .i64 dp, .int .i64 kd, .int .i64 co, .int .i64 sc, .string s, .slice ia il ic, .slice ka kl kc] 44)).heap.size := Nat.lt_trans hz (alloc_lt _ _)
      have hca : Calls Try.prog 12 #[lv, .agg #[.string b, .int .i64 at0, .int .i64 fr, .int .i64 to0, .int .i64 lb, .int .i64 dp, .int .i64 kd, .int .i64 co, .int .i64 sc, .string s, .slice ia il ic, .slice ka kl kc]] (wr.alloc (.cells #[.string b, .int .i64 at0, .int .i64 fr, .int .i64 to0, .int .i64 lb, .int .i64 dp, .int .i64 kd, .int .i64 co, .int .i64 sc, .string s, .slice ia il ic, .slice ka kl kc] 44)) (AP (.string t) (wr.alloc (.cells #[.string b, .int .i64 at0, .int .i64 fr, .int .i64 to0, .int .i64 lb, .int .i64 dp, .int .i64 kd, .int .i64 co, .int .i64 sc, .string s, .slice ia il ic, .slice ka kl kc] 44))) := by
        refine (rr_calls tab2_ok (fs := [L, es[k]]) (args := #[lv, .agg #[.string b, .int .i64 at0, .int .i64 fr, .int .i64 to0, .int .i64 lb, .int .i64 dp, .int .i64 kd, .int .i64 co, .int .i64 sc, .string s, .slice ia il ic, .slice ka kl kc]]) (q2Str_some hq) (glob_below hG bX) ⟨rep_below hS RL bX, rep_below hS Rx bX, trivial⟩).mono ?_
        rintro e w' ⟨v, rfl, b, S', R⟩
        cases R
        exact ⟨rfl, b⟩
      go_wp2_with fail
      generalize (wr.alloc (.cells #[.string b, .int .i64 at0, .int .i64 fr, .int .i64 to0, .int .i64 lb, .int .i64 dp, .int .i64 kd, .int .i64 co, .int .i64 sc, .string s, .slice ia il ic, .slice ka kl kc] 44)) = wX at eX bX hIX zX hca ⊢
      obtain ⟨x0, x1, x2, x3, x4, x5, x6, x7, x8, x9, x10, x11⟩ := cells12 eX
      refine hca.mono ?_
      rintro e w2 ⟨rfl, b2⟩
      have hI2 := builderF_below hIX b2
      have bW := bX.trans (below_down (Nat.le_of_lt zX) b2)
      have z2 := Nat.lt_of_lt_of_le zX b2.size
      have hc4 := wstr hI2 (t ++ ⟨#[10]⟩) (by rw [ByteArray.size_append]; show acc.length + (t.size + 1) ≤ _; omega) (Nat.le_of_lt z2)
      clear x0 x1 x2 x3 x4 x5 x6 x7 x8 x9 x10 x11 hca
      go_wp2_with (go_at_call 35; refine hc4.mono ?_)
      rintro e w5 ⟨rfl, h5, b5⟩
      clear hc4
      go_wp2
      have e10 : (t ++ ⟨#[10]⟩ : ByteArray).data.toList = t.data.toList ++ [10] := by rw [ByteArray.data_append, Array.toList_append]
      rw [e10] at h5
      exact ⟨⟨k + 1, _, by omega, by simp, h5, bW.trans b5, Nat.lt_of_lt_of_le z2 b5.size, hP1⟩, by simp [intOf]; omega⟩
    · have : k = es.length := by omega
      subst this
      rw [List.drop_length] at hP
      simp only [linesF] at hP
      cases hP
      have hc7 := bstr hI (by omega)
      go_wp2_with (go_at_call 36; refine hc7.mono ?_)
      rintro e w7 ⟨rfl, b7⟩
      go_wp2
      go_returns
      exact ⟨rfl, hB.trans b7⟩
noncomputable def linesP (ts : List TV) : Option Ans := match ts with
  | [.fz L, .fz (.sl es)] => (linesS L es).bind fun r => some ([.fz (.str ⟨r.toArray⟩)], [])
  | _ => none
theorem lines_prim : ∀ ts r, linesP ts = some r → CallOK Try.prog 13 ts r := by
  intro ts r e
  unfold linesP at e
  split at e
  · rename_i L es
    obtain ⟨s, hs, e⟩ := Option.bind_eq_some_iff.1 e
    cases e
    intro W S args Bs hlt hglob hT
    obtain ⟨v1, v2, rfl, rfl, R1, R2⟩ := repTs_two hT
    refine (lines_walk hlt (hglob.mono hlt fun _ _ => rfl) R1 R2 hs).mono fun ex W' hp => ?_
    obtain ⟨rfl, b⟩ := hp
    have hts : ∀ t ∈ [TV.fz L, TV.fz (.sl es)], ∃ e, t = TV.fz e := fun t ht => by
      simp only [List.mem_cons, List.not_mem_nil, or_false] at ht
      rcases ht with rfl | rfl <;> exact ⟨_, rfl⟩
    exact ans_one hts rfl hlt b (.str _)
  · cases e
noncomputable def A_lines : AFunc := ⟨2, [], .skip, some linesP⟩
end Go.Ab
end
section
namespace Go.Ab
open Go.Proofs
noncomputable def tab : Nat → Option AFunc
  | 3 => some A_law28_LedgerTexts
  | 6 => some A_ref01_Sort
  | 7 => some A_level_New
  | 8 => some A_ref01_Table
  | 9 => some A_law28_light
  | 10 => some A_law28_lives
  | 11 => some A_law28_text
  | 12 => some A_ledger_Text
  | 18 => some A_level_Lattice_Leq
  | 19 => some A_level_Lattice_Top
  | 20 => some A_level_named
  | 21 => some A_level_laid
  | 22 => some A_level_closed
  | 23 => some A_level_twisted
  | 24 => some A_level_Lattice_fill
  | 25 => some A_ref09_Light
  | 26 => some A_ref09_Is
  | 27 => some A_ref03_Signs
  | 28 => some A_law28_quote
  | 29 => some A_ref04_Text
  | 30 => some A_ref12_Text
  | 32 => some A_ledger_quoted
  | 33 => some A_ledger_number
  | 34 => some A_level_Lattice_Text
  | 44 => some A_level_Lattice_Is
  | 45 => some A_level_Name
  | 46 => some A_level_turned
  | 47 => some A_level_over
  | 48 => some A_ref09_Size
  | 49 => some A_ref09_Flat
  | 50 => some A_ref09_Labels
  | 51 => some A_ref09_right
  | 52 => some A_ref09_shape
  | 53 => some A_ref09_Strip
  | 54 => some A_ref03_Put
  | 55 => some A_ref03_Quote
  | 56 => some A_ref04_Is
  | 57 => some A_ref04_Of
  | 58 => some A_ref12_text
  | 59 => some A_ref11_Erase
  | 60 => some A_ref09_Bottom
  | 62 => some A_level_Lattice_Bottom
  | 64 => some A_num_Int
  | 65 => some A_num_Text
  | 71 => some A_level_Lattice_Size
  | 72 => some A_ref09_Deep
  | 73 => some A_ref05_Is
  | 74 => some A_ref12_body
  | 75 => some A_ref12_quote
  | 76 => some A_ref11_At
  | 77 => some A_level_Lattice_Join
  | 80 => some A_show_quoted
  | 81 => some A_utf_Valid
  | 82 => some A_utf_quoted
  | 83 => some A_num_Make
  | 84 => some A_num_Is
  | 85 => some A_num_pow
  | 86 => some A_num_digits
  | 90 => some A_ref09_Join
  | 91 => some A_ref05_zero
  | 92 => some A_ref06_Text
  | 93 => some A_ref11_sees
  | 94 => some A_ref09_Top
  | 97 => some A_utf_size
  | 99 => some A_strings_HasPrefix
  | 101 => some A_ref01_Join
  | 102 => some A_ref06_quote
  | 103 => some A_envelope_Key
  | 104 => some A_utf_tail
  | 107 => some A_internal_stringslite_HasPrefix
  | 31 => some A_show
  | 87 => some A_repeat
  | 63 => some A_quote
  | 13 => some A_lines
  | _ => none
noncomputable def Rt : Orc := RR tab
theorem rt_call {f : Nat} (af : AFunc) {ts : List TV} {r : Ans} (hf : tab f = some af) (hl : (af.prim.isNone && (ts.length == af.np && Nat.blt af.np 1000)) = true) (k : Nat) (h : callL Rt k true af ts = some r) : Rt f ts = some r := RR_call af hf hl k h
theorem rt_prim {f : Nat} {af : AFunc} {p : List TV → Option Ans} {ts : List TV} {r : Ans} (hf : tab f = some af) (hp : af.prim = some p) (h : p ts = some r) : Rt f ts = some r := RR_prim hf hp h
set_option maxRecDepth 100000
theorem cf3 : compF Try.prog mds (livesBy Lv Tv 3) 3 Try.f3 = some A_law28_LedgerTexts := by kernel_rfl
theorem cf10 : compF Try.prog mds (livesBy Lv Tv 10) 10 Try.f10 = some A_law28_lives := by kernel_rfl
theorem tab_ok : TabOK Try.prog mds (livesBy Lv Tv) tab := by
  intro f af h
  unfold tab at h
  split at h
  · cases h; exact .inl ⟨Try.f3, by kernel_rfl, cf3⟩
  · cases h; exact .inl ⟨Try.f6, by kernel_rfl, cf6⟩
  · cases h; exact .inl ⟨Try.f7, by kernel_rfl, cf7⟩
  · cases h; exact .inl ⟨Try.f8, by kernel_rfl, cf8⟩
  · cases h; exact .inl ⟨Try.f9, by kernel_rfl, cf9⟩
  · cases h; exact .inl ⟨Try.f10, by kernel_rfl, cf10⟩
  · cases h; exact .inl ⟨Try.f11, by kernel_rfl, cf11⟩
  · cases h; exact .inl ⟨Try.f12, by kernel_rfl, cf12⟩
  · cases h; exact .inl ⟨Try.f18, by kernel_rfl, cf18⟩
  · cases h; exact .inl ⟨Try.f19, by kernel_rfl, cf19⟩
  · cases h; exact .inl ⟨Try.f20, by kernel_rfl, cf20⟩
  · cases h; exact .inl ⟨Try.f21, by kernel_rfl, cf21⟩
  · cases h; exact .inl ⟨Try.f22, by kernel_rfl, cf22⟩
  · cases h; exact .inl ⟨Try.f23, by kernel_rfl, cf23⟩
  · cases h; exact .inl ⟨Try.f24, by kernel_rfl, cf24⟩
  · cases h; exact .inl ⟨Try.f25, by kernel_rfl, cf25⟩
  · cases h; exact .inl ⟨Try.f26, by kernel_rfl, cf26⟩
  · cases h; exact .inl ⟨Try.f27, by kernel_rfl, cf27⟩
  · cases h; exact .inl ⟨Try.f28, by kernel_rfl, cf28⟩
  · cases h; exact .inl ⟨Try.f29, by kernel_rfl, cf29⟩
  · cases h; exact .inl ⟨Try.f30, by kernel_rfl, cf30⟩
  · cases h; exact .inl ⟨Try.f32, by kernel_rfl, cf32⟩
  · cases h; exact .inl ⟨Try.f33, by kernel_rfl, cf33⟩
  · cases h; exact .inl ⟨Try.f34, by kernel_rfl, cf34⟩
  · cases h; exact .inl ⟨Try.f44, by kernel_rfl, cf44⟩
  · cases h; exact .inl ⟨Try.f45, by kernel_rfl, cf45⟩
  · cases h; exact .inl ⟨Try.f46, by kernel_rfl, cf46⟩
  · cases h; exact .inl ⟨Try.f47, by kernel_rfl, cf47⟩
  · cases h; exact .inl ⟨Try.f48, by kernel_rfl, cf48⟩
  · cases h; exact .inl ⟨Try.f49, by kernel_rfl, cf49⟩
  · cases h; exact .inl ⟨Try.f50, by kernel_rfl, cf50⟩
  · cases h; exact .inl ⟨Try.f51, by kernel_rfl, cf51⟩
  · cases h; exact .inl ⟨Try.f52, by kernel_rfl, cf52⟩
  · cases h; exact .inl ⟨Try.f53, by kernel_rfl, cf53⟩
  · cases h; exact .inl ⟨Try.f54, by kernel_rfl, cf54⟩
  · cases h; exact .inl ⟨Try.f55, by kernel_rfl, cf55⟩
  · cases h; exact .inl ⟨Try.f56, by kernel_rfl, cf56⟩
  · cases h; exact .inl ⟨Try.f57, by kernel_rfl, cf57⟩
  · cases h; exact .inl ⟨Try.f58, by kernel_rfl, cf58⟩
  · cases h; exact .inl ⟨Try.f59, by kernel_rfl, cf59⟩
  · cases h; exact .inl ⟨Try.f60, by kernel_rfl, cf60⟩
  · cases h; exact .inl ⟨Try.f62, by kernel_rfl, cf62⟩
  · cases h; exact .inl ⟨Try.f64, by kernel_rfl, cf64⟩
  · cases h; exact .inl ⟨Try.f65, by kernel_rfl, cf65⟩
  · cases h; exact .inl ⟨Try.f71, by kernel_rfl, cf71⟩
  · cases h; exact .inl ⟨Try.f72, by kernel_rfl, cf72⟩
  · cases h; exact .inl ⟨Try.f73, by kernel_rfl, cf73⟩
  · cases h; exact .inl ⟨Try.f74, by kernel_rfl, cf74⟩
  · cases h; exact .inl ⟨Try.f75, by kernel_rfl, cf75⟩
  · cases h; exact .inl ⟨Try.f76, by kernel_rfl, cf76⟩
  · cases h; exact .inl ⟨Try.f77, by kernel_rfl, cf77⟩
  · cases h; exact .inl ⟨Try.f80, by kernel_rfl, cf80⟩
  · cases h; exact .inl ⟨Try.f81, by kernel_rfl, cf81⟩
  · cases h; exact .inl ⟨Try.f82, by kernel_rfl, cf82⟩
  · cases h; exact .inl ⟨Try.f83, by kernel_rfl, cf83⟩
  · cases h; exact .inl ⟨Try.f84, by kernel_rfl, cf84⟩
  · cases h; exact .inl ⟨Try.f85, by kernel_rfl, cf85⟩
  · cases h; exact .inl ⟨Try.f86, by kernel_rfl, cf86⟩
  · cases h; exact .inl ⟨Try.f90, by kernel_rfl, cf90⟩
  · cases h; exact .inl ⟨Try.f91, by kernel_rfl, cf91⟩
  · cases h; exact .inl ⟨Try.f92, by kernel_rfl, cf92⟩
  · cases h; exact .inl ⟨Try.f93, by kernel_rfl, cf93⟩
  · cases h; exact .inl ⟨Try.f94, by kernel_rfl, cf94⟩
  · cases h; exact .inl ⟨Try.f97, by kernel_rfl, cf97⟩
  · cases h; exact .inl ⟨Try.f99, by kernel_rfl, cf99⟩
  · cases h; exact .inl ⟨Try.f101, by kernel_rfl, cf101⟩
  · cases h; exact .inl ⟨Try.f102, by kernel_rfl, cf102⟩
  · cases h; exact .inl ⟨Try.f103, by kernel_rfl, cf103⟩
  · cases h; exact .inl ⟨Try.f104, by kernel_rfl, cf104⟩
  · cases h; exact .inl ⟨Try.f107, by kernel_rfl, cf107⟩
  · cases h; exact .inr ⟨Try.f31, _, rfl, by kernel_rfl, by kernel_rfl, by kernel_rfl, show_prim⟩
  · cases h; exact .inr ⟨Try.f87, _, rfl, by kernel_rfl, by kernel_rfl, by kernel_rfl, repeat_prim⟩
  · cases h; exact .inr ⟨Try.f63, _, rfl, by kernel_rfl, by kernel_rfl, by kernel_rfl, quote_prim⟩
  · cases h; exact .inr ⟨Try.f13, _, rfl, by kernel_rfl, by kernel_rfl, by kernel_rfl, lines_prim⟩
  · cases h
theorem lift {f : Nat} {ts : List TV} {r : Ans} (h : Rt0 f ts = some r) : Rt f ts = some r := RR_sub (fun f af h => by
  unfold tab0 at h
  split at h <;> cases h <;> rfl) h
theorem lift1 {f : Nat} {ts : List TV} {r : Ans} (h : Rt1 f ts = some r) : Rt f ts = some r := RR_sub (fun f af h => by
  unfold tab1 at h
  split at h
  · cases h; rfl
  · cases h; rfl
  · cases h; rfl
  · cases h; rfl
  · unfold tab0 at h
    split at h <;> cases h <;> rfl) h
theorem lift2 {f : Nat} {ts : List TV} {r : Ans} (h : Rt2 f ts = some r) : Rt f ts = some r := RR_sub (fun f af h => by (unfold tab2 at h; split at h <;> first | (cases h; rfl) | (unfold tab1 at h; split at h <;> first | (cases h; rfl) | (unfold tab0 at h; split at h <;> cases h <;> rfl)))) h
end Go.Ab
end
section
namespace Go.Ab
def dc (n : Nat) : UInt8 := UInt8.ofNat (48 + n % 10)
def dg (n : Nat) : List UInt8 := if n / 10 = 0 then [dc n] else dg (n / 10) ++ [dc n]
termination_by n
decreasing_by omega
def pd : Nat → Nat → List UInt8
  | 0, _ => []
  | k + 1, n => pd k (n / 10) ++ [dc n]
theorem pd_len : ∀ k n, (pd k n).length = k
  | 0, _ => rfl
  | k + 1, n => by simp [pd, pd_len k]
theorem pd_zero : ∀ k, pd k 0 = List.replicate k 48
  | 0 => rfl
  | k + 1 => by
    rw [pd, Nat.zero_div, pd_zero k, List.replicate_succ']
    rfl
theorem dg_len_pos (n : Nat) : 0 < (dg n).length := by
  rw [dg]
  split <;> simp
theorem pd_dg : ∀ (n m : Nat), (dg n).length ≤ m → pd m n = List.replicate (m - (dg n).length) 48 ++ dg n := by
  intro n
  induction n using Nat.strongRecOn with
  | ind n ih =>
    intro m hm
    have h0 := dg_len_pos n
    obtain ⟨k, rfl⟩ : ∃ k, m = k + 1 := ⟨m - 1, by omega⟩
    rw [pd]
    by_cases hz : n / 10 = 0
    · rw [hz, pd_zero]
      have hd : dg n = [dc n] := by rw [dg, if_pos hz]
      rw [hd]
      simp
    · have hd : dg n = dg (n / 10) ++ [dc n] := by rw [dg, if_neg hz]
      rw [hd] at hm ⊢
      simp only [List.length_append, List.length_cons, List.length_nil] at hm ⊢
      rw [ih (n / 10) (by omega) k (by omega), show k + 1 - ((dg (n / 10)).length + (0 + 1)) = k - (dg (n / 10)).length by omega, List.append_assoc]
theorem pd_succ : ∀ (k n : Nat), pd (k + 1) n = dc (n / 10 ^ k) :: pd k n
  | 0, n => by simp [pd]
  | k + 1, n => by
    rw [pd, pd_succ k (n / 10), List.cons_append, pd, Nat.div_div_eq_div_mul, ← Nat.pow_succ']
theorem pd_mod : ∀ (k n : Nat), pd k (n % 10 ^ k) = pd k n
  | 0, _ => rfl
  | k + 1, n => by
    have h1 : n % 10 ^ (k + 1) / 10 = n / 10 % 10 ^ k := by rw [Nat.pow_succ', Nat.mod_mul_right_div_self]
    have h2 : dc (n % 10 ^ (k + 1)) = dc n := by
      unfold dc
      rw [Nat.pow_succ', Nat.mod_mul_right_mod]
    rw [pd, pd, h1, h2, pd_mod k (n / 10)]
theorem dg_len_le : ∀ (k n : Nat), n < 10 ^ (k + 1) → (dg n).length ≤ k + 1
  | 0, n, h => by
    rw [dg, if_pos (by omega)]
    simp
  | k + 1, n, h => by
    rw [dg]
    split
    · simp
    · have := dg_len_le k (n / 10) (by rw [Nat.div_lt_iff_lt_mul (by omega)]; rw [Nat.pow_succ] at h; exact h)
      simp only [List.length_append, List.length_cons, List.length_nil]
      omega
def lD (n : Nat) : List Int := if n = 0 then [] else ((n % 10 : Nat) : Int) :: lD (n / 10)
termination_by n
decreasing_by omega
theorem lD_zero : lD 0 = [] := by rw [lD]; simp
theorem lD_pos {n : Nat} (h : n ≠ 0) : lD n = ((n % 10 : Nat) : Int) :: lD (n / 10) := by rw [lD, if_neg h]
theorem lD_get : ∀ (i n : Nat), (lD n).getD i 0 = ((n / 10 ^ i % 10 : Nat) : Int)
  | 0, n => by
    by_cases h : n = 0
    · subst h; rw [lD_zero]; rfl
    · rw [lD_pos h]; simp
  | i + 1, n => by
    by_cases h : n = 0
    · subst h; rw [lD_zero]; simp
    · rw [lD_pos h, List.getD_cons_succ, lD_get i (n / 10), Nat.div_div_eq_div_mul, ← Nat.pow_succ']
theorem dg_len : ∀ n, (dg n).length = max 1 (lD n).length := by
  intro n
  induction n using Nat.strongRecOn with
  | ind n ih =>
    by_cases h0 : n = 0
    · subst h0; rw [lD_zero, dg]; simp
    · rw [lD_pos h0, dg]
      by_cases hz : n / 10 = 0
      · rw [if_pos hz, hz, lD_zero]; simp
      · rw [if_neg hz]
        have := ih (n / 10) (by omega)
        have h1 : 0 < (lD (n / 10)).length := by rw [lD_pos hz]; simp
        simp only [List.length_append, List.length_cons, List.length_nil]
        omega
theorem lD_div : ∀ (k n : Nat), (lD (n / 10 ^ k)).length = (lD n).length - k
  | 0, n => by simp
  | k + 1, n => by
    rw [Nat.pow_succ', ← Nat.div_div_eq_div_mul, lD_div k (n / 10)]
    by_cases h : n = 0
    · subst h; simp [lD_zero]
    · rw [lD_pos h]; simp only [List.length_cons]; omega
def nBody (a sc : Nat) : List UInt8 := dg (a / 10 ^ sc) ++ (if sc = 0 then [] else 46 :: pd sc a)
def numT (c s : Int) : List UInt8 := (if c < 0 then [45] else []) ++ nBody c.natAbs s.toNat
def rT (a sc : Nat) : Nat → List UInt8
  | 0 => []
  | i + 1 => dc (a / 10 ^ i) :: (if i = sc ∧ 0 < i then 46 :: rT a sc i else rT a sc i)
theorem rT_low (a sc : Nat) : ∀ i, i ≤ sc → rT a sc i = pd i a
  | 0, _ => rfl
  | i + 1, h => by
    rw [rT, if_neg (by omega), rT_low a sc i (by omega), pd_succ]
theorem rT_high (a sc : Nat) : ∀ i, rT a sc (sc + 1 + i) = pd (i + 1) (a / 10 ^ sc) ++ (if sc = 0 then [] else 46 :: pd sc a)
  | 0 => by
    rw [Nat.add_zero, rT, rT_low a sc sc (Nat.le_refl _), pd_succ]
    by_cases h : sc = 0
    · subst h; simp [pd]
    · rw [if_pos ⟨rfl, by omega⟩, if_neg h]; simp [pd]
  | i + 1 => by
    rw [← Nat.add_assoc, rT, if_neg (by omega), rT_high a sc i, pd_succ (i + 1), Nat.div_div_eq_div_mul, ← Nat.pow_add, List.cons_append, show sc + (i + 1) = sc + 1 + i by omega]
theorem rT_all (a sc : Nat) : rT a sc (max (lD a).length (sc + 1)) = nBody a sc := by
  obtain ⟨i, hi⟩ : ∃ i, max (lD a).length (sc + 1) = sc + 1 + i := ⟨max (lD a).length (sc + 1) - (sc + 1), by omega⟩
  rw [hi, rT_high, nBody]
  have h1 := dg_len (a / 10 ^ sc)
  rw [lD_div] at h1
  have h2 := pd_dg (a / 10 ^ sc) (i + 1) (by omega)
  rw [h2, show i + 1 - (dg (a / 10 ^ sc)).length = 0 by omega]
  rfl
end Go.Ab
end
section
namespace Go.Ab
def textB (s : ByteArray) : Bool := (signsL s.data.toList).isSome
def leB (a b : ByteArray) : Bool := Op.bytesLess a.toList b.toList || a.toList == b.toList
def num4B (c s : Int) : Bool := !(decide (s < 0)) && (!(decide (s > 9)) && (!(decide (c ≥ 1000000000000000)) && (!(decide (c ≤ (-1000000000000000))) && ((s == 0) || (Int.tmod c 10 != 0)))))
def zeroB (k c s : Int) (t : ByteArray) (li lk : Int) : Bool :=
  !((k != 3) && ((c != 0) || (s != 0))) && (!((k != 4) && ((k != 7) && !(t.toList == (⟨#[]⟩ : ByteArray).toList))) && (((k == 5) || ((k == 6) || (li == 0))) && ((k == 6) || (lk == 0))))
def keysOk : Option ByteArray → List ByteArray → Bool
  | _, [] => true
  | p, s :: r => textB s && ((match p with | none => true | some q => !(leB s q)) && keysOk (some s) r)
mutual
def isR : JV → Int → Bool
  | .mk k c s t is ks, d => !(decide (k < 0)) && (!(decide (k > 7)) && (zeroB k c s t is.length ks.length && (!(decide (d > 32)) && (textB t && ((!(k == 3) || num4B c s) && ((!(k == 6) || !((ks.length : Int) != is.length)) && (keysOk none ks && isRs is (IntKind.wrap .i64 (d + 1)))))))))
def isRs : List JV → Int → Bool
  | [], _ => true
  | v :: r, d => !(v.k == 7) && (isR v d && isRs r d)
end
theorem num4_ok (c s : Int) : Rt0 N_ref04_Is [.fz (.ag [.int .i64 c, .int .i64 s])] = some ([.fz (.bool (num4B c s))], []) := by
  refine rt_call0 A_ref04_Is rfl rfl 0 ?_
  rw [E_ref04_Is]
  simp only [jump_true, J_ref04_Is_1_0_eq]
  unfold num4B
  generalize decide (s < 0) = b1
  generalize decide (s > 9) = b2
  generalize decide (c ≥ 1000000000000000) = b3
  generalize decide (c ≤ (-1000000000000000)) = b4
  generalize (s == 0) = b5
  cases b1 <;> cases b2 <;> cases b3 <;> cases b4 <;> cases b5 <;> first | exact Eq.refl _ | simp
theorem zero_ok (k c s : Int) (t : ByteArray) (is : List JV) (ks : List ByteArray) : Rt0 N_ref05_zero [.fz (.ag [.int .i64 k, .int .i64 c, .int .i64 s, .str t, .sl (is.map JV.enc), .sl (ks.map .str)])] = some ([.fz (.bool (zeroB k c s t is.length ks.length))], []) := by
  refine rt_call0 A_ref05_zero rfl rfl 0 ?_
  have hJ : J_ref05_zero_1_0 Rt0 0 true k c s t (is.map JV.enc) (ks.map .str) = some ([.fz (.bool (((k == 5) || ((k == 6) || ((is.length : Int) == 0))) && ((k == 6) || ((ks.length : Int) == 0))))], []) := by
    rw [J_ref05_zero_1_0_eq]
    simp only [List.length_map]
    generalize (k == 5) = b1
    generalize (k == 6) = b2
    generalize ((is.length : Int) == 0) = b3
    generalize ((ks.length : Int) == 0) = b4
    cases b1 <;> cases b2 <;> cases b3 <;> cases b4 <;> exact Eq.refl _
  rw [E_ref05_zero]
  simp only [jump_true, hJ]
  unfold zeroB
  generalize (((k == 5) || ((k == 6) || ((is.length : Int) == 0))) && ((k == 6) || ((ks.length : Int) == 0))) = z
  generalize (k != 3) = b1
  generalize (c != 0) = b2
  generalize (s != 0) = b3
  generalize (k != 4) = b4
  generalize (k != 7) = b5
  generalize (t.toList == (⟨#[]⟩ : ByteArray).toList) = b6
  cases b1 <;> cases b2 <;> cases b3 <;> cases b4 <;> cases b5 <;> cases b6 <;> exact Eq.refl _
section
variable (d k c s : Int) (t : ByteArray) (is : List JV) (ks : List ByteArray) (hks : ∀ s ∈ ks, s.size ≤ 8796093022208) (hlk : ks.length ≤ 1152921504606846976)
include hks hlk
theorem text_ok {s : ByteArray} (h : s ∈ ks) : ∃ l, Rt0 N_ref03_Signs [.fz (.str s)] = some ([.fz (.sl l), .fz (.bool (textB s))], []) := by
  rw [signs_ok s (hks s h)]
  unfold textB
  cases signsL s.data.toList with
  | none => exact ⟨_, rfl⟩
  | some cs => exact ⟨_, rfl⟩
def prevK (ks : List ByteArray) (i : Nat) : Option ByteArray := match i with | 0 => none | m + 1 => ks[m]?
theorem is_keys (K : Nat) : ∀ (n f i : Nat), n < f → ks.length ≤ i + n → i ≤ ks.length →
    onL (L_ref05_Is_1_0 Rt0 K true f d i k c s t (is.map JV.enc) (ks.map .str)) (K_ref05_Is_1 Rt0 K true) = (match keysOk (prevK ks i) (ks.drop i) with
      | true => K_ref05_Is_1 Rt0 K true (.exit 0) (X_ref05_Is_1_1 d k c s t (is.map JV.enc) (ks.map .str))
      | false => some ([.fz (.bool false)], [])) := by
  intro n
  induction n with
  | zero =>
    intro f i hf hn hi
    obtain ⟨f, rfl⟩ : ∃ m, f = m + 1 := ⟨f - 1, by omega⟩
    have e1 : decide ((i : Int) < (ks.length : Int)) = false := by simp; omega
    rw [L_ref05_Is_1_0_eq, List.drop_eq_nil_of_le (show ks.length ≤ i by omega)]
    simp only [List.length_map, e1, ifB_false, onL_some, keysOk]
  | succ n ih =>
    intro f i hf hn hi
    obtain ⟨f, rfl⟩ : ∃ m, f = m + 1 := ⟨f - 1, by omega⟩
    by_cases hl : i < ks.length
    case neg =>
      have e1 : decide ((i : Int) < (ks.length : Int)) = false := by simp; omega
      rw [L_ref05_Is_1_0_eq, List.drop_eq_nil_of_le (show ks.length ≤ i by omega)]
      simp only [List.length_map, e1, ifB_false, onL_some, keysOk]
    case pos =>
      have e1 : decide ((i : Int) < (ks.length : Int)) = true := by simp; omega
      have e2 : decide ((0 : Int) ≤ (i : Int)) = true := by simp
      obtain ⟨l, ht⟩ := text_ok ks hks hlk (List.getElem_mem hl)
      have hw : IntKind.wrap .i64 ((i : Int) + 1) = ((i + 1 : Nat) : Int) := by rw [wrap64 (by omega) (by omega)]; omega
      have h2 := ih f (i + 1) (by omega) (by omega) (by omega)
      have hp : prevK ks (i + 1) = some ks[i] := by simp [prevK, hl]
      rw [hp] at h2
      rw [L_ref05_Is_1_0_eq, drop_cons hl]
      simp only [keysOk]
      cases htx : textB ks[i] with
      | false =>
        rw [htx] at ht
        simp only [List.length_map, e1, e2, ifB_true, Bool.and_true, when_true', Int.toNat_natCast, List.getD_eq_getElem?_getD, List.getElem?_map, List.getElem?_eq_getElem hl, Option.map_some, Option.getD_some, fits_str, isStr_str, toStr_str, ht, onR_some, List.isEmpty_nil, allF_cons, allF_nil, List.getElem?_cons_succ, List.getElem?_cons_zero, toF_fz, isBool_bool, toBool_bool, Bool.not_false, onL_some, X_ref05_Is_1_0_eq, Bool.false_and]
      | true =>
        rw [htx] at ht
        simp only [List.length_map, e1, e2, ifB_true, Bool.and_true, when_true', Int.toNat_natCast, List.getD_eq_getElem?_getD, List.getElem?_map, List.getElem?_eq_getElem hl, Option.map_some, Option.getD_some, fits_str, isStr_str, toStr_str, ht, onR_some, List.isEmpty_nil, allF_cons, allF_nil, List.getElem?_cons_succ, List.getElem?_cons_zero, toF_fz, isBool_bool, toBool_bool, Bool.not_true, ifB_false, hw, Bool.true_and]
        cases i with
        | zero =>
          have e3 : decide (((0 : Nat) : Int) > 0) = false := rfl
          simp only [e3, ifB_false, prevK, Bool.true_and]
          exact h2
        | succ m =>
          have e3 : decide (((m + 1 : Nat) : Int) > 0) = true := by first | (simp; done) | (simp; omega)
          have hw2 : IntKind.wrap .i64 (((m + 1 : Nat) : Int) - 1) = (m : Int) := by rw [wrap64 (by omega) (by omega)]; omega
          have e4 : decide ((0 : Int) ≤ (m : Int)) = true := by simp
          have e5 : decide ((m : Int) < (ks.length : Int)) = true := by simp; omega
          have hm : m < ks.length := by omega
          have hpm : prevK ks (m + 1) = some ks[m] := by simp [prevK, hm]
          rw [hpm]
          simp only [e3, ifB_true, hw2, e4, e5, Bool.and_true, when_true', Int.toNat_natCast, List.getElem?_eq_getElem hm, Option.map_some, Option.getD_some, fits_str, isStr_str, toStr_str]
          have hle : (Op.bytesLess ks[m + 1].toList ks[m].toList || ks[m + 1].toList == ks[m].toList) = leB ks[m + 1] ks[m] := rfl
          rw [hle]
          cases leB ks[m + 1] ks[m] with
          | true => simp only [ifB_true, onL_some, X_ref05_Is_1_0_eq, Bool.not_true, Bool.false_and]
          | false => simp only [ifB_false, Bool.not_false, Bool.true_and]; exact h2
end
inductive JV.Short : JV → Prop where
  | mk {k c s : Int} {t : ByteArray} {is : List JV} {ks : List ByteArray} (ht : t.size ≤ 8796093022208) (hs : ∀ s ∈ ks, s.size ≤ 8796093022208) (h : ∀ v ∈ is, v.Short) : (JV.mk k c s t is ks).Short
theorem is_ok {v : JV} (hv : v.Sm) : v.Short → ∀ d : Int, Rt0 N_ref05_Is [.fz v.enc, .fz (.int .i64 d)] = some ([.fz (.bool (isR v d))], []) := by
  induction hv with
  | @mk k c s t is ks hi hk hsm ih =>
    intro hsh d
    cases hsh with
    | mk ht hs hsh =>
    have items : d ≤ 32 → ∀ (n f i : Nat), n < f → is.length ≤ i + n → onL (L_ref05_Is_2_0 Rt0 (is.length + ks.length + 2) true f d i k c s t (is.map JV.enc) (ks.map .str)) (K_ref05_Is_2 Rt0 (is.length + ks.length + 2) true) = some ([.fz (.bool (isRs (is.drop i) (IntKind.wrap .i64 (d + 1))))], []) := by
      intro hd n
      induction n with
      | zero =>
        intro f i hf hn
        obtain ⟨f, rfl⟩ : ∃ m, f = m + 1 := ⟨f - 1, by omega⟩
        have e1 : decide ((i : Int) < (is.length : Int)) = false := by simp; omega
        rw [L_ref05_Is_2_0_eq, List.drop_eq_nil_of_le (show is.length ≤ i by omega)]
        simp only [List.length_map, e1, ifB_false, onL_some, X_ref05_Is_2_1_eq, isRs]
      | succ n jh =>
        intro f i hf hn
        obtain ⟨f, rfl⟩ : ∃ m, f = m + 1 := ⟨f - 1, by omega⟩
        by_cases hl : i < is.length
        case neg =>
          have e1 : decide ((i : Int) < (is.length : Int)) = false := by simp; omega
          rw [L_ref05_Is_2_0_eq, List.drop_eq_nil_of_le (show is.length ≤ i by omega)]
          simp only [List.length_map, e1, ifB_false, onL_some, X_ref05_Is_2_1_eq, isRs]
        case pos =>
          have e1 : decide ((i : Int) < (is.length : Int)) = true := by simp; omega
          have e2 : decide ((0 : Int) ≤ (i : Int)) = true := by simp
          have hm := List.getElem_mem hl
          have h1 := ih is[i] hm (hsh _ hm) (IntKind.wrap .i64 (d + 1))
          have h2 := jh f (i + 1) (by omega) (by omega)
          have hw : IntKind.wrap .i64 ((i : Int) + 1) = ((i + 1 : Nat) : Int) := by rw [wrap64 (by omega) (by omega)]; omega
          have hk0 : FV.cell is[i].enc 0 = .int .i64 is[i].k := by obtain ⟨k0, _, _, _, _, _⟩ := is[i]; rw [JV.enc_mk]; rfl
          have hag : FV.isAg 6 is[i].enc = true := is[i].enc_fits
          rw [L_ref05_Is_2_0_eq, drop_cons hl, isRs]
          simp only [List.length_map, e1, e2, ifB_true, Bool.and_true, when_true', Int.toNat_natCast, List.getD_eq_getElem?_getD, List.getElem?_map, List.getElem?_eq_getElem hl, Option.map_some, Option.getD_some, JV.enc_fits, hag, hk0, isInt_int, toInt_int]
          cases h7 : (is[i].k == 7) with
          | true => simp only [ifB_true, onL_some, X_ref05_Is_2_0_eq, Bool.not_true, Bool.false_and]
          | false =>
            simp only [ifB_false, h1, onR_some, List.isEmpty_nil, allF_cons, allF_nil, Bool.and_true, when_true', List.getElem?_cons_zero, Option.getD_some, toF_fz, isBool_bool, toBool_bool, hw, Bool.not_false, Bool.true_and]
            cases isR is[i] (IntKind.wrap .i64 (d + 1)) with
            | true => simp only [Bool.not_true, ifB_false, Bool.true_and]; exact h2
            | false => simp only [Bool.not_false, ifB_true, onL_some, X_ref05_Is_2_0_eq, Bool.false_and]
    have hz := zero_ok k c s t is ks
    obtain ⟨lt, htx⟩ : ∃ l, Rt0 N_ref03_Signs [.fz (.str t)] = some ([.fz (.sl l), .fz (.bool (textB t))], []) := by
      rw [signs_ok t ht]
      unfold textB
      cases signsL t.data.toList with
      | none => exact ⟨_, rfl⟩
      | some cs => exact ⟨_, rfl⟩
    refine rt_call0 A_ref05_Is rfl rfl (is.length + ks.length + 2) ?_
    rw [JV.enc_mk, E_ref05_Is, isR]
    cases h1 : decide (k < 0) with
    | true => simp only [ifB_true, Bool.not_true, Bool.false_and]
    | false =>
    cases h2 : decide (k > 7) with
    | true => simp only [ifB_true, ifB_false, Bool.not_true, Bool.not_false, Bool.false_and, Bool.and_false]
    | false =>
    simp only [ifB_false, hz, onR_some, List.isEmpty_nil, allF_cons, allF_nil, Bool.and_true, when_true', List.getD_cons_zero, toF_fz, isBool_bool, toBool_bool, Bool.not_false, Bool.true_and]
    cases h3 : zeroB k c s t is.length ks.length with
    | false => simp only [Bool.not_false, ifB_true, Bool.false_and]
    | true =>
    simp only [Bool.not_true, ifB_false, Bool.true_and]
    by_cases hd : d > 32
    · have h4 : decide (d > 32) = true := by simpa using hd
      simp only [h4, ifB_true, Bool.not_true, Bool.false_and]
    have h4 : decide (d > 32) = false := by simpa using hd
    have hJ3 : J_ref05_Is_3_0 Rt0 (is.length + ks.length + 2) true d k c s t (is.map JV.enc) (ks.map .str) = some ([.fz (.bool (keysOk none ks && isRs is (IntKind.wrap .i64 (d + 1))))], []) := by
      rw [J_ref05_Is_3_0_eq]
      have := is_keys d k c s t is ks hs hk (is.length + ks.length + 2) ks.length (is.length + ks.length + 2) 0 (by omega) (by omega) (by omega)
      rw [show ((0 : Nat) : Int) = 0 from rfl, List.drop_zero] at this
      rw [this]
      have h2 := items (by omega) is.length (is.length + ks.length + 2) 0 (by omega) (by omega)
      rw [show ((0 : Nat) : Int) = 0 from rfl, List.drop_zero] at h2
      cases hko : keysOk none ks with
      | true => simp only [prevK, hko, X_ref05_Is_1_1_eq, h2, Bool.true_and]
      | false => simp only [prevK, hko, Bool.false_and]
    have hN4 := num4_ok c s
    simp only [h4, ifB_false, Bool.not_false, Bool.true_and, jump_true, J_ref05_Is_4_0_eq, htx, onR_some, List.isEmpty_nil, allF_cons, allF_nil, Bool.and_true, when_true', List.getD_cons_zero, List.getD_cons_succ, toF_fz, isBool_bool, toBool_bool, hN4, hJ3, List.length_map]
    have hw5 : IntKind.wrap .i64 (d + 1) = IntKind.wrap .i64 (d + 1) := rfl
    cases textB t with
    | false => simp only [Bool.not_false, ifB_true, Bool.false_and]
    | true =>
    simp only [Bool.not_true, ifB_false, Bool.true_and]
    have tail : ∀ b : Bool, (ifB (k == 6) (ifB ((ks.length : Int) != (is.length : Int)) (some ([TV.fz (FV.bool false)], ([] : List LV))) (some ([TV.fz (FV.bool (keysOk none ks && isRs is (IntKind.wrap .i64 (d + 1))))], []))) (some ([TV.fz (FV.bool (keysOk none ks && isRs is (IntKind.wrap .i64 (d + 1))))], []))) = some ([.fz (.bool ((!(k == 6) || !((ks.length : Int) != is.length)) && (keysOk none ks && isRs is (IntKind.wrap .i64 (d + 1)))))], []) := fun _ => by
      cases (k == 6) <;> cases ((ks.length : Int) != (is.length : Int)) <;> exact Eq.refl _
    rw [tail true]
    cases (k == 3) with
    | false => simp only [ifB_false, Bool.not_false, Bool.true_or, Bool.true_and]
    | true =>
      cases num4B c s with
      | false => simp only [ifB_true, Bool.not_false, Bool.not_true, Bool.false_or, Bool.false_and]
      | true => simp only [ifB_true, ifB_false, Bool.not_true, Bool.false_or, Bool.true_and]
end Go.Ab
end
section
namespace Go.Ab
theorem numIs_ok (c s : Int) : Rt0 N_num_Is [.fz (.ag [.int .i64 c, .int .i64 s])] = some ([.fz (.bool (num4B c s))], []) := by
  refine rt_call0 A_num_Is rfl rfl 0 ?_
  rw [E_num_Is]
  simp only [jump_true, J_num_Is_1_0_eq]
  unfold num4B
  generalize decide (s < 0) = b1
  generalize decide (s > 9) = b2
  generalize decide (c ≥ 1000000000000000) = b3
  generalize decide (c ≤ (-1000000000000000)) = b4
  generalize (s == 0) = b5
  cases b1 <;> cases b2 <;> cases b3 <;> cases b4 <;> cases b5 <;> first | exact Eq.refl _ | simp
theorem num4_facts {c s : Int} (h : num4B c s = true) : 0 ≤ s ∧ s ≤ 9 ∧ c < 1000000000000000 ∧ -1000000000000000 < c := by
  unfold num4B at h
  simp only [Bool.and_eq_true, Bool.not_eq_true', decide_eq_false_iff_not] at h
  omega
theorem pow_ok (s : Nat) (hs : s ≤ 9) : Rt0 N_num_pow [.fz (.int .i64 s)] = some ([.fz (.int .i64 ((10 ^ s : Nat) : Int))], []) := by
  have loop : ∀ (j i : Nat), i + j = s → L_num_pow_1_0 Rt0 (s + 1) true (j + 1) ((10 ^ i : Nat) : Int) s i = some (.exit 0, X_num_pow_1_0 ((10 ^ s : Nat) : Int)) := by
    intro j
    induction j with
    | zero =>
      intro i hij
      rw [L_num_pow_1_0_eq, decide_eq_false (by omega), ifB_false, show i = s by omega]
    | succ j ih =>
      intro i hij
      have hlt : (10 ^ i : Nat) ≤ 10 ^ 8 := Nat.pow_le_pow_right (by omega) (by omega)
      have hw : IntKind.wrap .i64 (((10 ^ i : Nat) : Int) * 10) = ((10 ^ (i + 1) : Nat) : Int) := by
        rw [Nat.pow_succ]
        generalize 10 ^ i = p at hlt ⊢
        rw [wrap64 (by omega) (by omega)]
        push_cast
        rfl
      have hw2 : IntKind.wrap .i64 ((i : Int) + 1) = ((i + 1 : Nat) : Int) := by rw [wrap64 (by omega) (by omega)]; push_cast; rfl
      rw [L_num_pow_1_0_eq, decide_eq_true (by omega), ifB_true, hw, hw2]
      exact ih (i + 1) (by omega)
  refine rt_call0 A_num_pow rfl rfl (s + 1) ?_
  rw [E_num_pow]
  have h := loop s 0 (by omega)
  simp only [Nat.pow_zero, Int.natCast_one, Int.natCast_zero] at h
  rw [h, onL_some, X_num_pow_1_0_eq]
def u8s (l : List Nat) : List FV := l.map fun (n : Nat) => FV.int .u8 (n : Int)
theorem u8s_fits (l : List Nat) : (u8s l).all (FV.fits 1 false) = true := by
  unfold u8s
  rw [List.all_map, List.all_eq_true]
  intro x _
  rfl
theorem u8s_ints (l : List Nat) : (u8s l).all (FV.isInt .u8) = true := by
  unfold u8s
  rw [List.all_map, List.all_eq_true]
  intro x _
  rfl
theorem u8s_back (l : List Nat) : (u8s l).map (fun e => UInt8.ofNat (FV.toInt e).toNat) = l.map UInt8.ofNat := by
  unfold u8s
  rw [List.map_map]
  rfl
theorem dig_at (n : Nat) : (Array.getD (#[48, 49, 50, 51, 52, 53, 54, 55, 56, 57] : Array UInt8) (n % 10) 0).toNat = 48 + n % 10 := by
  have : n % 10 < 10 := Nat.mod_lt _ (by omega)
  generalize n % 10 = k at this
  match k, this with
  | 0, _ => rfl
  | 1, _ => rfl
  | 2, _ => rfl
  | 3, _ => rfl
  | 4, _ => rfl
  | 5, _ => rfl
  | 6, _ => rfl
  | 7, _ => rfl
  | 8, _ => rfl
  | 9, _ => rfl
theorem digits_loop (K : Nat) : ∀ (n j i : Nat) (bs : List Nat), n < 1000000000000000 → bs.length = 20 → (dg n).length ≤ i → (dg n).length ≤ j → i ≤ 20 →
    L_num_digits_1_0 Rt0 K true j n i (.ag (u8s bs)) = some (.ret, X_num_digits_1_0 (⟨(dg n ++ (bs.drop i).map UInt8.ofNat).toArray⟩ : ByteArray)) := by
  intro n
  induction n using Nat.strongRecOn with
  | ind n ih =>
    intro j i bs hn hbl hi hj hi20
    have hp := dg_len_pos n
    obtain ⟨j, rfl⟩ : ∃ m, j = m + 1 := ⟨j - 1, by omega⟩
    obtain ⟨i, rfl⟩ : ∃ m, i = m + 1 := ⟨i - 1, by omega⟩
    have hm : Int.tmod (n : Int) 10 = ((n % 10 : Nat) : Int) := by rw [Int.tmod_eq_emod_of_nonneg (by omega)]; rfl
    have hd : Int.tdiv (n : Int) 10 = ((n / 10 : Nat) : Int) := by rw [Int.tdiv_eq_ediv_of_nonneg (by omega)]; rfl
    have hw : IntKind.wrap .i64 (((i + 1 : Nat) : Int) - 1) = (i : Int) := by rw [wrap64 (by omega) (by omega)]; omega
    have hw2 : IntKind.wrap .i64 ((n / 10 : Nat) : Int) = ((n / 10 : Nat) : Int) := wrap64 (by omega) (by omega)
    have hlen : (u8s bs).length = 20 := by simp [u8s, hbl]
    have hset : (u8s bs).set i (.int .u8 ((48 + n % 10 : Nat) : Int)) = u8s (bs.set i (48 + n % 10)) := by simp [u8s, List.map_set]
    have hlt : Nat.blt (0 + i * 1) 20 = true := Nat.ble_eq_true_of_le (by omega)
    have hsz : (ByteArray.size (⟨#[48, 49, 50, 51, 52, 53, 54, 55, 56, 57]⟩ : ByteArray) : Int) = 10 := rfl
    have hdl : (u8s (bs.set i (48 + n % 10))).drop i = u8s ((bs.set i (48 + n % 10)).drop i) := by simp [u8s]
    have hds : (bs.set i (48 + n % 10)).drop i = (48 + n % 10) :: bs.drop (i + 1) := by
      rw [List.drop_eq_getElem_cons (by simp; omega), List.getElem_set_self, List.drop_set_of_lt (by omega)]
    have e20 : FV.isAg 20 (.ag (u8s bs)) = true := by simp [FV.isAg, hlen]
    rw [L_num_digits_1_0_eq]
    simp only [hm, hd, hw, hw2, hsz, Int.toNat_natCast, dig_at, toAg_ag, Nat.mul_one, Nat.zero_add, hset, u8s_fits, hdl, u8s_ints, u8s_back, hds, decide_eq_true (show (0 : Int) ≤ ((n % 10 : Nat) : Int) by omega), decide_eq_true (show ((n % 10 : Nat) : Int) < 10 by omega), decide_eq_true (show (0 : Int) ≤ (i : Int) by omega), decide_eq_true (show (i : Int) < 20 by omega), decide_eq_true (show (i : Int) ≤ 20 by omega), Bool.and_true, when_true', e20, show Nat.blt i 20 = true from Nat.ble_eq_true_of_le (by omega)]
    by_cases hz : n / 10 = 0
    · have hdg : dg n = [dc n] := by rw [dg, if_pos hz]
      have hb : (((n / 10 : Nat) : Int) == 0) = true := by rw [hz]; rfl
      rw [hb, ifB_true, hdg]
      rfl
    · have hdg : dg n = dg (n / 10) ++ [dc n] := by rw [dg, if_neg hz]
      have hb : (((n / 10 : Nat) : Int) == 0) = false := by
        rw [beq_eq_false_iff_ne]
        intro e
        exact hz (by exact_mod_cast e)
      rw [hdg] at hi hj
      simp only [List.length_append, List.length_cons, List.length_nil] at hi hj
      rw [hb, ifB_false, ih (n / 10) (by omega) j i _ (by omega) (by simp [hbl]) (by omega) (by omega) (by omega), hds, hdg, List.append_assoc]
      rfl
theorem digits_ok (n : Nat) (hn : n < 1000000000000000) : Rt0 N_num_digits [.fz (.int .i64 n)] = some ([.fz (.str ⟨(dg n).toArray⟩)], []) := by
  refine rt_call0 A_num_digits rfl rfl 20 ?_
  have hl := dg_len_le 14 n (by omega)
  have h := digits_loop 20 n 20 20 (List.replicate 20 0) hn (by simp) (by omega) (by omega) (by omega)
  rw [E_num_digits]
  have e : u8s (List.replicate 20 0) = [.int .u8 0, .int .u8 0, .int .u8 0, .int .u8 0, .int .u8 0, .int .u8 0, .int .u8 0, .int .u8 0, .int .u8 0, .int .u8 0, .int .u8 0, .int .u8 0, .int .u8 0, .int .u8 0, .int .u8 0, .int .u8 0, .int .u8 0, .int .u8 0, .int .u8 0, .int .u8 0] := rfl
  rw [e] at h
  have h20 : ((20 : Nat) : Int) = 20 := rfl
  rw [h20] at h
  rw [h, onL_some, X_num_digits_1_0_eq]
  simp
theorem of_loop (K : Nat) (neg : Bool) : ∀ (a j : Nat) (c : Int) (acc : List Int), c.natAbs = a → -1000000000000000 < c → c < 1000000000000000 → (lD a).length < j → acc.length ≤ 100 → (lD a).length + acc.length ≤ 100 →
    L_ref04_Of_1_1 Rt0 K true j c false neg (acc.map (.int .i64)) = some (.exit 0, X_ref04_Of_1_1 false neg ((acc ++ lD a).map (.int .i64))) := by
  intro a
  induction a using Nat.strongRecOn with
  | ind a ih =>
    intro j c acc hc h1 h2 hj ha hal
    obtain ⟨j, rfl⟩ : ∃ m, j = m + 1 := ⟨j - 1, by omega⟩
    rw [L_ref04_Of_1_1_eq]
    by_cases hz : c = 0
    · subst hz
      have : a = 0 := by simpa using hc.symm
      subst this
      rw [show ((0 : Int) != 0) = false from rfl, ifB_false, lD_zero, List.append_nil]
    · have ha0 : a ≠ 0 := by omega
      rw [show (c != 0) = true from bne_iff_ne.2 hz, ifB_true]
      rw [lD_pos ha0] at hj hal ⊢
      simp only [List.length_cons] at hj hal
      have hdiv : (Int.tdiv c 10).natAbs = a / 10 := by rw [Int.natAbs_tdiv, hc]; rfl
      have hmod : (Int.tmod c 10).natAbs = a % 10 := by rw [Int.natAbs_tmod, hc]; rfl
      have hw : IntKind.wrap .i64 (Int.tdiv c 10) = Int.tdiv c 10 := wrap64 (by omega) (by omega)
      have hroom : (decide (((acc.map (FV.int .i64)).length + [FV.int .i64 ((a % 10 : Nat) : Int)].length) * 8 ≤ roomy) && decide ((acc.map (FV.int .i64)).length + [FV.int .i64 ((a % 10 : Nat) : Int)].length ≤ roomy)) = true := by
        simp only [List.length_map, List.length_cons, List.length_nil, Bool.and_eq_true, decide_eq_true_eq, roomy]
        omega
      have hih := ih (a / 10) (by omega) j (Int.tdiv c 10) (acc ++ [((a % 10 : Nat) : Int)]) hdiv (by omega) (by omega) (by omega) (by simp; omega) (by simp; omega)
      rw [List.map_append, List.map_singleton, List.append_assoc, List.singleton_append] at hih
      by_cases hneg : Int.tmod c 10 < 0
      · have hm : IntKind.wrap .i64 (0 - Int.tmod c 10) = ((a % 10 : Nat) : Int) := by rw [wrap64 (by omega) (by omega)]; omega
        rw [decide_eq_true hneg, ifB_true, jump_true, J_ref04_Of_1_1_eq, hm, hw, hroom, when_true', hih]
      · have hm : Int.tmod c 10 = ((a % 10 : Nat) : Int) := by omega
        rw [decide_eq_false hneg, ifB_false, jump_true, J_ref04_Of_1_1_eq, hm, hw, hroom, when_true', hih]
theorem lD_len_le : ∀ (k n : Nat), n < 10 ^ k → (lD n).length ≤ k
  | 0, n, h => by
    have : n = 0 := by omega
    subst this; rw [lD_zero]; simp
  | k + 1, n, h => by
    by_cases h0 : n = 0
    · subst h0; rw [lD_zero]; simp
    · rw [lD_pos h0]
      have := lD_len_le k (n / 10) (by rw [Nat.div_lt_iff_lt_mul (by omega)]; rw [Nat.pow_succ] at h; exact h)
      simp only [List.length_cons]; omega
theorem of04_ok (c : Int) (h1 : -1000000000000000 < c) (h2 : c < 1000000000000000) : Rt0 N_ref04_Of [.fz (.int .i64 c)] = some ([.fz (.ag [.bool (decide (c < 0)), .sl ((lD c.natAbs).map (.int .i64))])], []) := by
  refine rt_call0 A_ref04_Of rfl rfl 20 ?_
  rw [E_ref04_Of]
  have hl := lD_len_le 15 c.natAbs (by omega)
  by_cases hz : c = 0
  · subst hz
    rw [show L_ref04_Of_1_0 Rt0 20 true 20 0 false (decide ((0 : Int) < 0)) = _ from L_ref04_Of_1_0_eq Rt0 20 true 19 0 false (decide ((0 : Int) < 0))]
    rw [show ((0 : Int) != 0) = false from rfl, ifB_false, onL_some, X_ref04_Of_1_0_eq]
    rw [show (0 : Int).natAbs = 0 from rfl, lD_zero]
    rfl
  · have ha0 : c.natAbs ≠ 0 := by omega
    rw [show L_ref04_Of_1_0 Rt0 20 true 20 c false (decide (c < 0)) = _ from L_ref04_Of_1_0_eq Rt0 20 true 19 c false (decide (c < 0))]
    rw [show (c != 0) = true from bne_iff_ne.2 hz, ifB_true]
    rw [lD_pos ha0] at hl ⊢
    simp only [List.length_cons] at hl
    have hdiv : (Int.tdiv c 10).natAbs = c.natAbs / 10 := by rw [Int.natAbs_tdiv]; rfl
    have hmod : (Int.tmod c 10).natAbs = c.natAbs % 10 := by rw [Int.natAbs_tmod]; rfl
    have hw : IntKind.wrap .i64 (Int.tdiv c 10) = Int.tdiv c 10 := wrap64 (by omega) (by omega)
    have hroom : ∀ x : Int, (decide (((0 : Nat) + [FV.int .i64 x].length) * 8 ≤ roomy) && decide ((0 : Nat) + [FV.int .i64 x].length ≤ roomy)) = true := fun _ => rfl
    have hih := of_loop 20 (decide (c < 0)) (c.natAbs / 10) 19 (Int.tdiv c 10) [((c.natAbs % 10 : Nat) : Int)] hdiv (by omega) (by omega) (by omega) (by simp) (by simp; omega)
    rw [List.map_singleton, List.singleton_append] at hih
    by_cases hneg : Int.tmod c 10 < 0
    · have hm : IntKind.wrap .i64 (0 - Int.tmod c 10) = ((c.natAbs % 10 : Nat) : Int) := by rw [wrap64 (by omega) (by omega)]; omega
      rw [decide_eq_true hneg, ifB_true, jump_true, J_ref04_Of_1_0_eq, hm, hw, hroom, when_true', hih, onL_some, X_ref04_Of_1_1_eq]
    · have hm : Int.tmod c 10 = ((c.natAbs % 10 : Nat) : Int) := by omega
      rw [decide_eq_false hneg, ifB_false, jump_true, J_ref04_Of_1_0_eq, hm, hw, hroom, when_true', hih, onL_some, X_ref04_Of_1_1_eq]
end Go.Ab
end
section
namespace Go.Ab
theorem qBapp (a b : List UInt8) : qB a ++ qB b = qB (a ++ b) := by
  unfold qB
  apply ByteArray.ext
  simp
theorem qBsz (l : List UInt8) : (qB l).size = l.length := rfl
theorem qLe {a b : List UInt8} (h : a.length + b.length ≤ 1000000000000000) : decide ((qB a).size + (qB b).size ≤ 2 ^ 62) = true := decide_eq_true (by rw [qBsz, qBsz]; omega)
theorem rT_len (a sc : Nat) : ∀ i, (rT a sc i).length ≤ 2 * i
  | 0 => by simp [rT]
  | i + 1 => by
    rw [rT]
    have := rT_len a sc i
    split <;> simp only [List.length_cons] <;> omega
theorem rdig (d : Nat) : ((⟨(List.map (fun e => UInt8.ofNat (FV.toInt e).toNat) [(FV.int .u8 (IntKind.wrap .u8 (IntKind.wrap .i64 (48 + ((d % 10 : Nat) : Int)))))]).toArray⟩ : ByteArray)) = qB [dc d] := by
  have h : d % 10 < 10 := Nat.mod_lt _ (by omega)
  unfold dc
  generalize d % 10 = k at h ⊢
  match k, h with
  | 0, _ => rfl
  | 1, _ => rfl
  | 2, _ => rfl
  | 3, _ => rfl
  | 4, _ => rfl
  | 5, _ => rfl
  | 6, _ => rfl
  | 7, _ => rfl
  | 8, _ => rfl
  | 9, _ => rfl
theorem rtext_loop (K a sc m : Nat) (c : Int) (b : Bool) (hm : m = max (lD a).length (sc + 1)) (hl : (lD a).length ≤ 15) (hs : sc ≤ 9) : ∀ (j i : Nat), i + j = m →
    L_ref04_Text_1_0 Rt0 K true (j + 1) (qB (rT a sc i)) i c sc (.ag [.bool b, .sl ((lD a).map (.int .i64))]) = some (.exit 0, X_ref04_Text_1_0 (qB (rT a sc m)) (.ag [.bool b, .sl ((lD a).map (.int .i64))])) := by
  intro j
  induction j with
  | zero =>
    intro i hij
    have : i = m := by omega
    subst this
    rw [L_ref04_Text_1_0_eq]
    simp only [isAg_ag, List.length_cons, List.length_nil, Nat.reduceAdd, beq_self_eq_true, when_true', cell_ag, List.getD_cons_succ, List.getD_cons_zero, isSl_sl, toSl_sl, List.length_map, decide_eq_false (show ¬ ((i : Int) < ((lD a).length : Int)) by omega), decide_eq_false (show ¬ ((i : Int) ≤ (sc : Int)) by omega), ifB_false]
  | succ j ih =>
    intro i hij
    have hrl := rT_len a sc i
    have hw : IntKind.wrap .i64 ((i : Int) + 1) = ((i + 1 : Nat) : Int) := by rw [wrap64 (by omega) (by omega)]; rfl
    have hih := ih (i + 1) (by omega)
    have h1 : J_ref04_Text_1_0 Rt0 K true (j + 1) (if i = sc ∧ 0 < i then qB (46 :: rT a sc i) else qB (rT a sc i)) i ((a / 10 ^ i % 10 : Nat) : Int) c sc (.ag [.bool b, .sl ((lD a).map (.int .i64))]) = some (.exit 0, X_ref04_Text_1_0 (qB (rT a sc m)) (.ag [.bool b, .sl ((lD a).map (.int .i64))])) := by
      rw [J_ref04_Text_1_0_eq, rdig]
      have hall : List.all [(FV.int .u8 (IntKind.wrap .u8 (IntKind.wrap .i64 (48 + ((a / 10 ^ i % 10 : Nat) : Int)))))] (FV.isInt .u8) = true := rfl
      rw [hall, when_true', hw]
      rw [rT] at hih
      split
      · rename_i hc
        rw [if_pos hc] at hih
        rw [qLe (by simp only [List.length_cons, List.length_nil]; omega), when_true', qBapp]
        exact hih
      · rename_i hc
        rw [if_neg hc] at hih
        rw [qLe (by simp only [List.length_cons, List.length_nil]; omega), when_true', qBapp]
        exact hih
    have h2 : J_ref04_Text_2_0 Rt0 K true (j + 1) (qB (rT a sc i)) i ((a / 10 ^ i % 10 : Nat) : Int) c sc (.ag [.bool b, .sl ((lD a).map (.int .i64))]) = some (.exit 0, X_ref04_Text_1_0 (qB (rT a sc m)) (.ag [.bool b, .sl ((lD a).map (.int .i64))])) := by
      rw [J_ref04_Text_2_0_eq]
      by_cases he : i = sc
      · rw [show ((i : Int) == (sc : Int)) = true by simp [he], ifB_true]
        by_cases h0 : 0 < i
        · rw [if_pos ⟨he, h0⟩] at h1
          rw [decide_eq_true (show (i : Int) > 0 by omega), ifB_true, show (⟨#[46]⟩ : ByteArray) = qB [46] from rfl, qLe (by simp only [List.length_cons, List.length_nil]; omega), when_true', jump_true, qBapp]
          exact h1
        · rw [if_neg (by omega)] at h1
          rw [decide_eq_false (show ¬ (i : Int) > 0 by omega), ifB_false, jump_true]
          exact h1
      · rw [if_neg (by omega)] at h1
        rw [show ((i : Int) == (sc : Int)) = false by rw [beq_eq_false_iff_ne]; omega, ifB_false, jump_true]
        exact h1
    have h3 : J_ref04_Text_4_0 Rt0 K true (j + 1) (qB (rT a sc i)) i c sc (.ag [.bool b, .sl ((lD a).map (.int .i64))]) = some (.exit 0, X_ref04_Text_1_0 (qB (rT a sc m)) (.ag [.bool b, .sl ((lD a).map (.int .i64))])) := by
      have hg := lD_get i a
      rw [J_ref04_Text_4_0_eq]
      simp only [isAg_ag, List.length_cons, List.length_nil, Nat.reduceAdd, beq_self_eq_true, when_true', cell_ag, List.getD_cons_succ, List.getD_cons_zero, isSl_sl, toSl_sl, List.length_map]
      by_cases hi : i < (lD a).length
      · have hgi : ((lD a).map (FV.int .i64)).getD i .nilp = .int .i64 ((a / 10 ^ i % 10 : Nat) : Int) := by
          have he : (lD a)[i] = ((a / 10 ^ i % 10 : Nat) : Int) := by rw [← hg, List.getD_eq_getElem?_getD, List.getElem?_eq_getElem hi]; rfl
          rw [List.getD_eq_getElem?_getD, List.getElem?_map, List.getElem?_eq_getElem hi, he]; rfl
        simp only [decide_eq_true (show (i : Int) < ((lD a).length : Int) by omega), decide_eq_true (show (0 : Int) ≤ (i : Int) by omega), ifB_true, Bool.and_true, when_true', Int.toNat_natCast, hgi, fits_int, isInt_int, toInt_int, jump_true]
        exact h2
      · have h0 : ((a / 10 ^ i % 10 : Nat) : Int) = 0 := by rw [← hg, List.getD_eq_getElem?_getD, List.getElem?_eq_none (by omega)]; rfl
        rw [h0] at h2
        rw [decide_eq_false (show ¬ ((i : Int) < ((lD a).length : Int)) by omega), ifB_false, jump_true]
        exact h2
    rw [L_ref04_Text_1_0_eq]
    simp only [isAg_ag, List.length_cons, List.length_nil, Nat.reduceAdd, beq_self_eq_true, when_true', cell_ag, List.getD_cons_succ, List.getD_cons_zero, isSl_sl, toSl_sl, List.length_map, jump_true, h3]
    by_cases hi : i < (lD a).length
    · rw [decide_eq_true (show (i : Int) < ((lD a).length : Int) by omega), ifB_true]
    · rw [decide_eq_false (show ¬ ((i : Int) < ((lD a).length : Int)) by omega), ifB_false, decide_eq_true (show (i : Int) ≤ (sc : Int) by omega), ifB_true]
theorem rnum_ok {c s : Int} (h : num4B c s = true) : Rt0 N_ref04_Text [.fz (.ag [.int .i64 c, .int .i64 s])] = some ([.fz (.str (qB (numT c s)))], []) := by
  obtain ⟨h1, h2, h3, h4⟩ := num4_facts h
  obtain ⟨sc, rfl⟩ : ∃ n : Nat, s = n := ⟨s.toNat, by omega⟩
  have hl := lD_len_le 15 c.natAbs (by omega)
  have hlp := rtext_loop (max (lD c.natAbs).length (sc + 1) + 1) c.natAbs sc _ c (decide (c < 0)) rfl hl (by omega) (max (lD c.natAbs).length (sc + 1)) 0 (by omega)
  have hrl := rT_len c.natAbs sc (max (lD c.natAbs).length (sc + 1))
  rw [show qB (rT c.natAbs sc 0) = (⟨#[]⟩ : ByteArray) from rfl, Int.natCast_zero] at hlp
  rw [rT_all] at hlp hrl
  refine rt_call0 A_ref04_Text rfl rfl (max (lD c.natAbs).length (sc + 1) + 1) ?_
  rw [E_ref04_Text, num4_ok, h, of04_ok c h4 h3]
  have hfit : FV.fits 2 true (.ag [.bool (decide (c < 0)), .sl ((lD c.natAbs).map (.int .i64))]) = true := rfl
  simp only [onR_some, List.isEmpty_nil, allF_cons, allF_nil, Bool.and_true, when_true', List.getD_cons_zero, toF_fz, isF_fz, isBool_bool, toBool_bool, Bool.not_true, ifB_false, hfit, hlp, onL_some, X_ref04_Text_1_0_eq, isAg_ag, List.length_cons, List.length_nil, Nat.reduceAdd, beq_self_eq_true, cell_ag]
  unfold numT
  rw [Int.toNat_natCast]
  by_cases hc : c < 0
  · rw [decide_eq_true hc, ifB_true, if_pos hc, show (⟨#[45]⟩ : ByteArray) = qB [45] from rfl, qLe (by simp only [List.length_cons, List.length_nil]; omega), when_true', qBapp]
  · rw [decide_eq_false hc, ifB_false, if_neg hc]
    rfl
end Go.Ab
end
section
namespace Go.Ab
theorem rep48 : ∀ n, Lib.repeatL [48] n = List.replicate n (48 : UInt8)
  | 0 => rfl
  | n + 1 => by
    have := rep48 n
    simp only [Lib.repeatL] at this ⊢
    first
    | rw [List.replicate_succ, this]; rfl
    | (simp [List.replicate_succ] at this ⊢; first | exact this | rw [this])
theorem pnum_ok {c s : Int} (h : num4B c s = true) : Rt1 N_num_Text [.fz (.ag [.int .i64 c, .int .i64 s])] = some ([.fz (.str (qB (numT c s)))], []) := by
  obtain ⟨h1, h2, h3, h4⟩ := num4_facts h
  obtain ⟨sc, rfl⟩ : ∃ n : Nat, s = n := ⟨s.toNat, by omega⟩
  have hp1 : 0 < 10 ^ sc := Nat.pow_pos (by omega)
  have hp2 : 10 ^ sc ≤ 10 ^ 9 := Nat.pow_le_pow_right (by omega) (by omega)
  have hI := lift01 (numIs_ok c sc)
  rw [h] at hI
  have hP := lift01 (pow_ok sc (by omega))
  have main : ∀ (pre : List UInt8) (a : Nat), a < 1000000000000000 → pre.length ≤ 1 → J_num_Text_1_0 Rt1 0 true (qB pre) a c sc = some ([.fz (.str (qB (pre ++ nBody a sc)))], []) := by
    intro pre a ha hpre
    have hd1 : a / 10 ^ sc < 1000000000000000 := Nat.lt_of_le_of_lt (Nat.div_le_self _ _) ha
    have hd2 : a % 10 ^ sc < 10 ^ sc := Nat.mod_lt _ hp1
    have hD1 := lift01 (digits_ok (a / 10 ^ sc) hd1)
    have hD2 := lift01 (digits_ok (a % 10 ^ sc) (by omega))
    have hl1 := dg_len_le 14 (a / 10 ^ sc) (by omega)
    have hl2 := dg_len_le 14 (a % 10 ^ sc) (by omega)
    have ht : Int.tdiv (a : Int) ((10 ^ sc : Nat) : Int) = ((a / 10 ^ sc : Nat) : Int) := by rw [Int.tdiv_eq_ediv_of_nonneg (by omega)]; rfl
    have htm : Int.tmod (a : Int) ((10 ^ sc : Nat) : Int) = ((a % 10 ^ sc : Nat) : Int) := by rw [Int.tmod_eq_emod_of_nonneg (by omega)]; rfl
    have hwq : ∀ q : Nat, q < 1000000000000000 → IntKind.wrap .i64 (q : Int) = (q : Int) := fun q hq => wrap64 (by omega) (by omega)
    have hw := hwq _ hd1
    have hne : (!decide (((10 ^ sc : Nat) : Int) = 0)) = true := by
      rw [decide_eq_false (by omega)]; rfl
    have e1 : (⟨(dg (a / 10 ^ sc)).toArray⟩ : ByteArray) = qB (dg (a / 10 ^ sc)) := rfl
    have e2 : (⟨(dg (a % 10 ^ sc)).toArray⟩ : ByteArray) = qB (dg (a % 10 ^ sc)) := rfl
    rw [e1] at hD1
    rw [e2] at hD2
    rw [J_num_Text_1_0_eq, hP]
    simp only [onR_some, List.isEmpty_nil, allF_cons, allF_nil, Bool.and_true, when_true', List.getD_cons_zero, isF_fz, toF_fz, isInt_int, toInt_int, isStr_str, toStr_str, ht, htm, hw, hne, hD1, hD2, qLe (show pre.length + (dg (a / 10 ^ sc)).length ≤ 1000000000000000 by omega), qBapp]
    unfold nBody
    by_cases h0 : sc = 0
    · subst h0
      rw [show (((0 : Nat) : Int) == 0) = true from rfl, ifB_true, if_pos rfl, List.append_nil]
    · have hlp : (dg (a % 10 ^ sc)).length ≤ sc := by
        obtain ⟨k, rfl⟩ : ∃ k, sc = k + 1 := ⟨sc - 1, by omega⟩
        exact dg_len_le k _ hd2
      have hpd : pd sc a = List.replicate (sc - (dg (a % 10 ^ sc)).length) 48 ++ dg (a % 10 ^ sc) := by
        rw [← pd_dg _ _ hlp, pd_mod]
      have hw3 : IntKind.wrap .i64 ((sc : Int) - ((qB (dg (a % 10 ^ sc))).size : Int)) = ((sc - (dg (a % 10 ^ sc)).length : Nat) : Int) := by
        rw [qBsz, wrap64 (by omega) (by omega)]; omega
      have hR : Rt1 N_strings_Repeat [.fz (.str (⟨#[48]⟩ : ByteArray)), .fz (.int .i64 ((sc - (dg (a % 10 ^ sc)).length : Nat) : Int))] = some ([.fz (.str (qB (List.replicate (sc - (dg (a % 10 ^ sc)).length) 48)))], []) := by
        refine rt_prim1 (af := A_repeat) (p := repeatP) rfl rfl ?_
        unfold repeatP
        have hs1 : ((⟨#[48]⟩ : ByteArray).size) = 1 := rfl
        simp only [hs1, Int.toNat_natCast, Nat.one_mul]
        rw [show Nat.ble (sc - (dg (a % 10 ^ sc)).length) 140737488355328 = true from Nat.ble_eq_true_of_le (by omega), show Nat.ble (sc - (dg (a % 10 ^ sc)).length) 9223372036854775807 = true from Nat.ble_eq_true_of_le (by omega), decide_eq_true (by omega), Bool.and_true, Bool.and_true, when_true']
        have := rep48 (sc - (dg (a % 10 ^ sc)).length)
        rw [this]
        rfl
      have hrl : (List.replicate (sc - (dg (a % 10 ^ sc)).length) (48 : UInt8)).length ≤ 9 := by simp; omega
      rw [show ((sc : Int) == 0) = false by rw [beq_eq_false_iff_ne]; omega, ifB_false, if_neg h0, hpd]
      simp only [hw3, hR, onR_some, List.isEmpty_nil, allF_cons, allF_nil, Bool.and_true, when_true', List.getD_cons_zero, isF_fz, toF_fz, isStr_str, toStr_str, show (⟨#[46]⟩ : ByteArray) = qB [46] from rfl]
      rw [qLe (by simp only [List.length_append, List.length_cons, List.length_nil]; omega), when_true', qBapp, qLe (by simp only [List.length_append, List.length_cons, List.length_nil]; omega), when_true', qBapp, qLe (by simp only [List.length_append, List.length_cons, List.length_nil]; omega), when_true', qBapp]
      simp only [List.append_assoc, List.singleton_append, List.cons_append, List.nil_append]
  refine rt_call1 A_num_Text rfl rfl 0 ?_
  rw [E_num_Text, hI]
  simp only [onR_some, List.isEmpty_nil, allF_cons, allF_nil, Bool.and_true, when_true', List.getD_cons_zero, isF_fz, toF_fz, isBool_bool, toBool_bool, Bool.not_true, ifB_false, jump_true]
  unfold numT
  by_cases hc : c < 0
  · have hw : IntKind.wrap .i64 (0 - c) = ((c.natAbs : Nat) : Int) := by rw [wrap64 (by omega) (by omega)]; omega
    rw [decide_eq_true hc, ifB_true, if_pos hc, hw, show (⟨#[45]⟩ : ByteArray) = qB [45] from rfl, main [45] _ (by omega) (by simp), Int.toNat_natCast]
  · have hw : c = ((c.natAbs : Nat) : Int) := by omega
    have hm := main [] c.natAbs (by omega) (by simp)
    rw [decide_eq_false hc, ifB_false, if_neg hc, show (⟨#[]⟩ : ByteArray) = qB [] from rfl, Int.toNat_natCast]
    rw [← hw] at hm
    exact hm
end Go.Ab
end
section
namespace Go.Ab
theorem sign_hex (e : Int) (h0 : 0 ≤ e) (h1 : e < 32) : Array.getD (⟨#[48, 49, 50, 51, 52, 53, 54, 55, 56, 57, 97, 98, 99, 100, 101, 102]⟩ : ByteArray).data (Int.toNat (IntKind.wrap .i64 (Int.tdiv e 16))) 0 = hexB (e / 16) ∧ Array.getD (⟨#[48, 49, 50, 51, 52, 53, 54, 55, 56, 57, 97, 98, 99, 100, 101, 102]⟩ : ByteArray).data (Int.toNat (Int.tmod e 16)) 0 = hexB (e % 16) ∧ (decide (0 ≤ (IntKind.wrap .i64 (Int.tdiv e 16))) && decide ((IntKind.wrap .i64 (Int.tdiv e 16)) < (ByteArray.size (⟨#[48, 49, 50, 51, 52, 53, 54, 55, 56, 57, 97, 98, 99, 100, 101, 102]⟩ : ByteArray) : Int))) = true ∧ (decide (0 ≤ (Int.tmod e 16)) && decide ((Int.tmod e 16) < (ByteArray.size (⟨#[48, 49, 50, 51, 52, 53, 54, 55, 56, 57, 97, 98, 99, 100, 101, 102]⟩ : ByteArray) : Int))) = true := by
  have h' : e = 0 ∨ e = 1 ∨ e = 2 ∨ e = 3 ∨ e = 4 ∨ e = 5 ∨ e = 6 ∨ e = 7 ∨ e = 8 ∨ e = 9 ∨ e = 10 ∨ e = 11 ∨ e = 12 ∨ e = 13 ∨ e = 14 ∨ e = 15 ∨ e = 16 ∨ e = 17 ∨ e = 18 ∨ e = 19 ∨ e = 20 ∨ e = 21 ∨ e = 22 ∨ e = 23 ∨ e = 24 ∨ e = 25 ∨ e = 26 ∨ e = 27 ∨ e = 28 ∨ e = 29 ∨ e = 30 ∨ e = 31 := by omega
  rcases h' with rfl | rfl | rfl | rfl | rfl | rfl | rfl | rfl | rfl | rfl | rfl | rfl | rfl | rfl | rfl | rfl | rfl | rfl | rfl | rfl | rfl | rfl | rfl | rfl | rfl | rfl | rfl | rfl | rfl | rfl | rfl | rfl
  all_goals exact ⟨rfl, rfl, rfl, rfl⟩
section
variable (l : List Int) (hl : l.length ≤ 1099511627776) (hf : ∀ c ∈ l, 0 ≤ c ∧ c ≤ 1114111 ∧ ¬ (55296 ≤ c ∧ c < 57344))
def hexS : ByteArray := ⟨#[48, 49, 50, 51, 52, 53, 54, 55, 56, 57, 97, 98, 99, 100, 101, 102]⟩
theorem rq_short (K n : Nat) (i : Nat) (hi : i ≤ 1099511627776) (c : Int) (f : List UInt8) (acc : List UInt8) (hne : f ≠ []) (hlen : acc.length + f.length ≤ 140737488355328) (a : List FV) :
    J_ref03_Quote_1_0 Rt0 K true n a hexS (i : Int) c (qB f) (cells acc) = L_ref03_Quote_1_0 Rt0 K true n a hexS ((i + 1 : Nat) : Int) (cells (acc ++ f)) := by
  have hb : (ByteArray.toList (qB f) == ByteArray.toList (⟨#[]⟩ : ByteArray)) = false := by
    rw [bytes_beq]
    refine decide_eq_false fun e => hne ?_
    have := congrArg (fun s : ByteArray => s.data.toList) e
    simpa [qB] using this
  have hw : IntKind.wrap .i64 ((i : Int) + 1) = ((i + 1 : Nat) : Int) := by rw [wrap64 (by omega) (by omega)]; simp
  have e : List.map (fun b => FV.int .u8 ((UInt8.toNat b : Nat) : Int)) (qB f).data.toList = cells f := rfl
  rw [J_ref03_Quote_1_0_eq, hb, Bool.not_false, ifB_true, e, cells_len, cells_len, room_ok hlen, when_true', hw, cells_app]
theorem rq_empty (K n : Nat) (i : Nat) (hi : i ≤ 1099511627776) (c : Int) (h0 : 0 ≤ c) (h1 : c ≤ 1114111) (h2 : ¬ (55296 ≤ c ∧ c < 57344)) (h3 : ¬ c = 34) (h4 : ¬ c = 92) (h5 : ¬ c = 8) (h6 : ¬ c = 9) (h7 : ¬ c = 10) (h8 : ¬ c = 12) (h9 : ¬ c = 13) (acc : List UInt8) (hlen : acc.length + 6 ≤ 140737488355328) (a : List FV) :
    J_ref03_Quote_1_0 Rt0 K true n a hexS (i : Int) c (⟨#[]⟩ : ByteArray) (cells acc) = L_ref03_Quote_1_0 Rt0 K true n a hexS ((i + 1 : Nat) : Int) (cells (acc ++ quoteB c)) := by
  have hw : IntKind.wrap .i64 ((i : Int) + 1) = ((i + 1 : Nat) : Int) := by rw [wrap64 (by omega) (by omega)]; simp
  rw [J_ref03_Quote_1_0_eq, bytes_beq, decide_eq_true rfl, Bool.not_true, ifB_false]
  unfold quoteB
  rw [if_neg h3, if_neg h4, if_neg h5, if_neg h6, if_neg h7, if_neg h8, if_neg h9]
  by_cases h : c < 32
  · obtain ⟨x1, x2, x3, x4⟩ := sign_hex c h0 h
    rw [decide_eq_true h, ifB_true, if_pos h]
    unfold hexS
    rw [x3, x4, when_true', when_true', x1, x2, hw]
    have e : [FV.int .u8 92, .int .u8 117, .int .u8 48, .int .u8 48, .int .u8 (((hexB (c / 16)).toNat : Nat) : Int), .int .u8 (((hexB (c % 16)).toNat : Nat) : Int)] = cells [92, 117, 48, 48, hexB (c / 16), hexB (c % 16)] := rfl
    rw [e, cells_len, cells_len, room_ok (by simpa using hlen), when_true', cells_app]
  · rw [decide_eq_false h, ifB_false, if_neg h, put3_ok h0 h1, put_cells h0 h1, enc_put h0 h1 h2]
    have hq : (toB (putB c)).length ≤ 4 := by rw [toB_len, putB_len]; repeat' split
                                              all_goals omega
    simp only [onR_some, List.isEmpty_nil, allF_cons, allF_nil, Bool.and_true, when_true', List.getD_cons_zero, isF_fz, toF_fz, isSl_sl, toSl_sl, cells_fits, cells_len, hw, cells_app]
    rw [room_ok (by omega), when_true']
include hl hf
theorem rq_loop (K : Nat) : ∀ (d i n : Nat) (acc : List UInt8), i + d = l.length → d < n → acc.length ≤ 6 * i + 1 →
    L_ref03_Quote_1_0 Rt0 K true n (l.map (.int .i64)) hexS (i : Int) (cells acc) = some (.exit 0, X_ref03_Quote_1_0 (cells (acc ++ (l.drop i).flatMap quoteB))) := by
  intro d
  induction d with
  | zero =>
    intro i n acc h1 h2 h3
    obtain ⟨n, rfl⟩ : ∃ q, n = q + 1 := ⟨n - 1, by omega⟩
    rw [L_ref03_Quote_1_0_eq, List.length_map, decide_eq_false (by omega), ifB_false, List.drop_eq_nil_of_le (by omega)]
    simp
  | succ d ih =>
    intro i n acc h1 h2 h3
    obtain ⟨n, rfl⟩ : ∃ q, n = q + 1 := ⟨n - 1, by omega⟩
    have hi : i < l.length := by omega
    obtain ⟨f0, f1, f2⟩ := hf _ (List.getElem_mem hi)
    rw [List.drop_eq_getElem_cons hi, List.flatMap_cons, ← List.append_assoc]
    have hql := quoteB_len l[i]
    rw [L_ref03_Quote_1_0_eq]
    simp only [decide_eq_true (show (i : Int) < (l.length : Int) by omega), ifB_true, List.length_map, decide_eq_true (show (0 : Int) ≤ (i : Int) by omega), Bool.and_true, when_true', Int.toNat_natCast, getD_intQ l hi, fits_int, isInt_int, toInt_int, beq_self_eq_true]
    have go : L_ref03_Quote_1_0 Rt0 K true n (l.map (.int .i64)) hexS ((i + 1 : Nat) : Int) (cells (acc ++ quoteB l[i])) = some (.exit 0, X_ref03_Quote_1_0 (cells (acc ++ quoteB l[i] ++ (l.drop (i + 1)).flatMap quoteB))) := ih (i + 1) n _ (by omega) (by omega) (by simp; omega)
    generalize l[i] = c at f0 f1 f2 go hql ⊢
    have spec : ∀ (v : Int) (f : List UInt8), quoteB v = f → f ≠ [] → f.length ≤ 6 → c = v → J_ref03_Quote_1_0 Rt0 K true n (l.map (.int .i64)) hexS (i : Int) c (qB f) (cells acc) = some (.exit 0, X_ref03_Quote_1_0 (cells (acc ++ quoteB c ++ (l.drop (i + 1)).flatMap quoteB))) := by
      rintro v f hv hne hfl rfl
      rw [rq_short K n i (by omega) c f acc hne (by omega), ← hv]
      exact go
    by_cases g1 : c = 34
    · rw [show (c == 34) = true by simpa using g1, ifB_true, jump_true]; exact spec 34 [92, 34] rfl (by simp) (by simp) g1
    · rw [show (c == 34) = false by simpa using g1, ifB_false]
      by_cases g2 : c = 92
      · rw [show (c == 92) = true by simpa using g2, ifB_true, jump_true]; exact spec 92 [92, 92] rfl (by simp) (by simp) g2
      · rw [show (c == 92) = false by simpa using g2, ifB_false]
        by_cases g3 : c = 8
        · rw [show (c == 8) = true by simpa using g3, ifB_true, jump_true]; exact spec 8 [92, 98] rfl (by simp) (by simp) g3
        · rw [show (c == 8) = false by simpa using g3, ifB_false]
          by_cases g4 : c = 9
          · rw [show (c == 9) = true by simpa using g4, ifB_true, jump_true]; exact spec 9 [92, 116] rfl (by simp) (by simp) g4
          · rw [show (c == 9) = false by simpa using g4, ifB_false]
            by_cases g5 : c = 10
            · rw [show (c == 10) = true by simpa using g5, ifB_true, jump_true]; exact spec 10 [92, 110] rfl (by simp) (by simp) g5
            · rw [show (c == 10) = false by simpa using g5, ifB_false]
              by_cases g6 : c = 12
              · rw [show (c == 12) = true by simpa using g6, ifB_true, jump_true]; exact spec 12 [92, 102] rfl (by simp) (by simp) g6
              · rw [show (c == 12) = false by simpa using g6, ifB_false]
                by_cases g7 : c = 13
                · rw [show (c == 13) = true by simpa using g7, ifB_true, jump_true]; exact spec 13 [92, 114] rfl (by simp) (by simp) g7
                · rw [show (c == 13) = false by simpa using g7, ifB_false, jump_true, rq_empty K n i (by omega) c f0 f1 f2 g1 g2 g3 g4 g5 g6 g7 acc (by omega)]
                  exact go
set_option maxRecDepth 20000 in
theorem rquote_ok : Rt0 N_ref03_Quote [.fz (.sl (l.map (.int .i64)))] = some ([.fz (.str (qB (34 :: (l.flatMap quoteB ++ [34]))))], []) := by
  refine rt_call0 A_ref03_Quote rfl rfl (l.length + 1) ?_
  have h := rq_loop l hl hf (l.length + 1) l.length 0 (l.length + 1) [34] (by omega) (by omega) (by simp)
  have hlen : ∀ m : List Int, (m.flatMap quoteB).length ≤ 6 * m.length := by
    intro m
    induction m with
    | nil => simp
    | cons c m ih => have := quoteB_len c; simp only [List.flatMap_cons, List.length_append, List.length_cons]; omega
  have hll := hlen l
  rw [E_ref03_Quote]
  have e0 : [FV.int .u8 34] = cells [34] := rfl
  rw [e0]
  simp only [Int.natCast_zero, List.drop_zero] at h
  refine (congrArg (fun x => onL x _) h).trans ?_
  rw [onL_some, X_ref03_Quote_1_0_eq, e0, cells_len, cells_len, room_ok (by rw [List.length_append]; simp only [List.length_cons, List.length_nil]; omega), when_true', ← cells_app, cells_all, when_true', cells_back]
  simp
end
end Go.Ab
end
section
namespace Go.Ab
def qT (s : ByteArray) : List UInt8 := match signsL s.data.toList with | some cs => 34 :: (cs.flatMap quoteB ++ [34]) | none => []
theorem quotes_len (m : List Int) : (m.flatMap quoteB).length ≤ 6 * m.length := by
  induction m with
  | nil => simp
  | cons c m ih => have := quoteB_len c; simp only [List.flatMap_cons, List.length_append, List.length_cons]; omega
theorem qT_len (s : ByteArray) : (qT s).length ≤ 6 * s.size + 2 := by
  unfold qT
  cases h : signsL s.data.toList with
  | none => simp
  | some cs =>
    have := (sgAt_start h).len (Nat.zero_le _)
    have := quotes_len cs
    simp only [List.length_cons, List.length_append, List.length_nil]
    omega
theorem qT_pos {s : ByteArray} (h : textB s = true) : 2 ≤ (qT s).length := by
  unfold textB at h
  unfold qT
  cases hs : signsL s.data.toList with
  | none => rw [hs] at h; cases h
  | some cs => simp only [List.length_cons, List.length_append, List.length_nil]; omega
theorem qFrom_sg {s : ByteArray} {pos : Nat} {cs : List Int} (h : SgAt s pos cs) : ∀ n, s.size ≤ pos + n → qFrom s n pos = cs.flatMap quoteB := by
  induction h with
  | nil pos h => intro n hn; rw [qFrom_end s n pos (by omega)]; rfl
  | cons pos k c cs hd h hk hk2 h0 h1 h2 hb r ih =>
    intro n hn
    obtain ⟨n, rfl⟩ : ∃ m, n = m + 1 := ⟨n - 1, by omega⟩
    simp only [qFrom]
    rw [if_pos h, hd, ih n (by omega), Int.toNat_of_nonneg h0]
    rfl
theorem quoted12_ok {s : ByteArray} (hs : s.size ≤ 1099511627776) (ht : textB s = true) : Rt1 N_show_quoted [.fz (.str s)] = some ([.fz (.str (qB (qT s)))], []) := by
  have hq : Rt1 N_utf_Quote [.fz (.str s)] = some ([.fz (.str (qB (qT s))), .fz (.int .i64 0)], []) := by
    refine rt_prim1 (af := A_quote) (p := quoteP) rfl rfl ?_
    unfold quoteP
    simp only
    rw [show Nat.ble s.size 1099511627776 = true from Nat.ble_eq_true_of_le hs, when_true']
    unfold textB at ht
    rw [ht, if_pos rfl]
    unfold qT
    cases hv : signsL s.data.toList with
    | none => rw [hv] at ht; cases ht
    | some cs =>
      have := qFrom_sg (sgAt_start hv) s.size (by omega)
      unfold qText
      rw [this]
  refine rt_call1 A_show_quoted rfl rfl 0 ?_
  rw [E_show_quoted, hq]
  simp only [onR_some, onL_some, List.isEmpty_nil, allF_cons, allF_nil, Bool.and_true, Bool.true_and, when_true', List.getD_cons_zero, List.getD_cons_succ, isF_fz, toF_fz, isBool_bool, toBool_bool, isInt_int, toInt_int, isStr_str, toStr_str, isSl_sl, toSl_sl, List.length_cons, List.length_nil, List.all_cons, List.all_nil, lisFz_fz, ltoFz_fz, beq_self_eq_true, jump_true, ifB_true, ifB_false, isF_pv, isPv_pv, toV_pv, isNil_nilp, isNil_pt, isPt_pt, toAg_ag, cell_ag, isAg_ag, fits_ag, Int.toNat_natCast, Bool.not_true, Bool.not_false, fits_int, fits_bool, fits_str, fits_sl]
theorem rquo_ok {s : ByteArray} (hs : s.size ≤ 150994944) (ht : textB s = true) : ∃ cs : List Int, Rt0 N_ref03_Signs [.fz (.str s)] = some ([.fz (.sl (cs.map (.int .i64))), .fz (.bool true)], []) ∧ Rt0 N_ref03_Quote [.fz (.sl (cs.map (.int .i64)))] = some ([.fz (.str (qB (qT s)))], []) := by
  have hsg := signs_ok s (by omega)
  unfold textB at ht
  unfold qT
  cases hv : signsL s.data.toList with
  | none => rw [hv] at ht; cases ht
  | some cs =>
    rw [hv] at hsg
    have hS := sgAt_start hv
    have hle := hS.len (Nat.zero_le _)
    exact ⟨cs, hsg, rquote_ok cs (by omega) hS.fine⟩
theorem rq12_ok {s : ByteArray} (hs : s.size ≤ 150994944) (ht : textB s = true) : Rt0 N_ref12_quote [.fz (.str s)] = some ([.fz (.str (qB (qT s)))], []) := by
  obtain ⟨cs, h1, h2⟩ := rquo_ok hs ht
  refine rt_call0 A_ref12_quote rfl rfl 0 ?_
  rw [E_ref12_quote, h1]
  simp only [onR_some, onL_some, List.isEmpty_nil, allF_cons, allF_nil, Bool.and_true, Bool.true_and, when_true', List.getD_cons_zero, List.getD_cons_succ, isF_fz, toF_fz, isBool_bool, toBool_bool, isInt_int, toInt_int, isStr_str, toStr_str, isSl_sl, toSl_sl, List.length_cons, List.length_nil, List.all_cons, List.all_nil, lisFz_fz, ltoFz_fz, beq_self_eq_true, jump_true, ifB_true, ifB_false, isF_pv, isPv_pv, toV_pv, isNil_nilp, isNil_pt, isPt_pt, toAg_ag, cell_ag, isAg_ag, fits_ag, Int.toNat_natCast, Bool.not_true, Bool.not_false, fits_int, fits_bool, fits_str, fits_sl, h2]
theorem rq6_ok {s : ByteArray} (hs : s.size ≤ 150994944) (ht : textB s = true) : Rt0 N_ref06_quote [.fz (.str s)] = some ([.fz (.str (qB (qT s)))], []) := by
  obtain ⟨cs, h1, h2⟩ := rquo_ok hs ht
  refine rt_call0 A_ref06_quote rfl rfl 0 ?_
  rw [E_ref06_quote, h1]
  simp only [onR_some, onL_some, List.isEmpty_nil, allF_cons, allF_nil, Bool.and_true, Bool.true_and, when_true', List.getD_cons_zero, List.getD_cons_succ, isF_fz, toF_fz, isBool_bool, toBool_bool, isInt_int, toInt_int, isStr_str, toStr_str, isSl_sl, toSl_sl, List.length_cons, List.length_nil, List.all_cons, List.all_nil, lisFz_fz, ltoFz_fz, beq_self_eq_true, jump_true, ifB_true, ifB_false, isF_pv, isPv_pv, toV_pv, isNil_nilp, isNil_pt, isPt_pt, toAg_ag, cell_ag, isAg_ag, fits_ag, Int.toNat_natCast, Bool.not_true, Bool.not_false, fits_int, fits_bool, fits_str, fits_sl, h2]
def mk35 (k : ByteArray) : Bool := match k.data.toList with | b :: _ => b == 35 | [] => false
def keyL (k : ByteArray) : ByteArray := if mk35 k = true then qB (35 :: k.data.toList) else k
theorem keyL_size (k : ByteArray) : (keyL k).size ≤ k.size + 1 := by
  unfold keyL
  split
  · rw [qBsz, List.length_cons, Array.length_toList]; exact Nat.le_refl _
  · omega
theorem signs35 {l : List UInt8} {cs : List Int} (h : signsL l = some cs) : signsL (35 :: l) = some (35 :: cs) := by
  unfold signsL at h ⊢
  rw [List.length_cons]
  have hs : sgn (35 :: l) = some (35, 1) := rfl
  simp only [signsN, hs, List.drop_succ_cons, List.drop_zero, h, Option.map_some]
theorem keyL_text {k : ByteArray} (h : textB k = true) : textB (keyL k) = true := by
  unfold keyL
  split
  · unfold textB at h ⊢
    cases hs : signsL k.data.toList with
    | none => rw [hs] at h; cases h
    | some cs =>
      have := signs35 hs
      rw [show (qB (35 :: k.data.toList)).data.toList = 35 :: k.data.toList from rfl, this]
      rfl
  · exact h
theorem pre35 (k : ByteArray) (hk : k.size ≤ 1099511627776) : Rt0 N_strings_HasPrefix [.fz (.str k), .fz (.str (⟨#[35]⟩ : ByteArray))] = some ([.fz (.bool (mk35 k))], []) := by
  have h : Rt0 N_internal_stringslite_HasPrefix [.fz (.str k), .fz (.str (⟨#[35]⟩ : ByteArray))] = some ([.fz (.bool (mk35 k))], []) := by
    refine rt_call0 A_internal_stringslite_HasPrefix rfl rfl 0 ?_
    rw [E_internal_stringslite_HasPrefix]
    have h1 : ((⟨#[35]⟩ : ByteArray).size : Int) = 1 := rfl
    obtain ⟨⟨l⟩⟩ := k
    have hsz : (({ data := ⟨l⟩ } : ByteArray).size) = l.length := rfl
    rw [h1, hsz]
    rw [hsz] at hk
    cases l with
    | nil => rfl
    | cons b r =>
      have d1 : decide ((((b :: r).length : Nat) : Int) ≥ 1) = true := decide_eq_true (by simp only [List.length_cons]; omega)
      have d2 : decide ((1 : Int) ≤ (((b :: r).length : Nat) : Int)) = true := decide_eq_true (by simp only [List.length_cons]; omega)
      rw [d1, ifB_true]
      have he : (({ data := ⟨b :: r⟩ } : ByteArray).extract 0 (Int.toNat 1)) = qB [b] := by
        apply ByteArray.ext
        rw [ByteArray.data_extract]
        apply Array.toList_inj.1
        simp [qB]
      rw [he]
      have hb : ((qB [b]).toList == (⟨#[35]⟩ : ByteArray).toList) = (b == 35) := by
        rw [show (⟨#[35]⟩ : ByteArray) = qB [35] from rfl]
        by_cases g : b = 35
        · subst g; rw [beq_self_eq_true]; rfl
        · have g2 : (b == 35) = false := by simpa using g
          rw [g2, bytes_beq]
          refine decide_eq_false fun e => g ?_
          have := congrArg (fun x : ByteArray => x.data.toList) e
          simpa [qB] using this
      rw [hb]
      rfl
  refine rt_call0 A_strings_HasPrefix rfl rfl 0 ?_
  rw [E_strings_HasPrefix, h]
  simp only [onR_some, onL_some, List.isEmpty_nil, allF_cons, allF_nil, Bool.and_true, Bool.true_and, when_true', List.getD_cons_zero, List.getD_cons_succ, isF_fz, toF_fz, isBool_bool, toBool_bool, isInt_int, toInt_int, isStr_str, toStr_str, isSl_sl, toSl_sl, List.length_cons, List.length_nil, List.all_cons, List.all_nil, lisFz_fz, ltoFz_fz, beq_self_eq_true, jump_true, ifB_true, ifB_false, isF_pv, isPv_pv, toV_pv, isNil_nilp, isNil_pt, isPt_pt, toAg_ag, cell_ag, isAg_ag, fits_ag, Int.toNat_natCast, Bool.not_true, Bool.not_false, fits_int, fits_bool, fits_str, fits_sl]
theorem key_ok (k : ByteArray) (hk : k.size ≤ 150994944) : Rt0 N_envelope_Key [.fz (.str k)] = some ([.fz (.str (keyL k))], []) := by
  refine rt_call0 A_envelope_Key rfl rfl 0 ?_
  rw [E_envelope_Key, pre35 k (by omega)]
  simp only [onR_some, onL_some, List.isEmpty_nil, allF_cons, allF_nil, Bool.and_true, Bool.true_and, when_true', List.getD_cons_zero, List.getD_cons_succ, isF_fz, toF_fz, isBool_bool, toBool_bool, isInt_int, toInt_int, isStr_str, toStr_str, isSl_sl, toSl_sl, List.length_cons, List.length_nil, List.all_cons, List.all_nil, lisFz_fz, ltoFz_fz, beq_self_eq_true, jump_true, ifB_true, ifB_false, isF_pv, isPv_pv, toV_pv, isNil_nilp, isNil_pt, isPt_pt, toAg_ag, cell_ag, isAg_ag, fits_ag, Int.toNat_natCast, Bool.not_true, Bool.not_false, fits_int, fits_bool, fits_str, fits_sl]
  unfold keyL
  cases mk35 k with
  | true =>
    have e : (⟨#[35]⟩ : ByteArray) ++ k = qB (35 :: k.data.toList) := by
      have := qBapp [35] k.data.toList
      rw [qB_self] at this
      exact this
    have hd : decide ((⟨#[35]⟩ : ByteArray).size + k.size ≤ 2 ^ 62) = true := decide_eq_true (by show 1 + k.size ≤ _; omega)
    rw [ifB_true, hd, when_true', e, if_pos rfl]
  | false => rw [ifB_false, if_neg (by simp)]
end Go.Ab
end
section
namespace Go.Ab
inductive ND where
  | mk (a d k c s : Int) (t : ByteArray) (is : List ND) (ks : List ByteArray)
  deriving Inhabited
mutual
def ND.enc : ND → FV
  | .mk a d k c s t is ks => .ag [.int .i64 a, .int .i64 d, .int .i64 k, .int .i64 c, .int .i64 s, .str t, .sl (ND.encs is), .sl (ks.map .str)]
def ND.encs : List ND → List FV
  | [] => []
  | v :: r => v.enc :: ND.encs r
end
theorem ND.encs_eq : ∀ l : List ND, ND.encs l = l.map ND.enc
  | [] => by simp [ND.encs]
  | v :: r => by simp [ND.encs, ND.encs_eq r]
theorem ND.enc_mk (a d k c s : Int) (t : ByteArray) (is : List ND) (ks : List ByteArray) : (ND.mk a d k c s t is ks).enc = .ag [.int .i64 a, .int .i64 d, .int .i64 k, .int .i64 c, .int .i64 s, .str t, .sl (is.map ND.enc), .sl (ks.map .str)] := by
  simp [ND.enc, ND.encs_eq]
@[simp] theorem ND.enc_fits (v : ND) : v.enc.fits 8 true = true := by
  obtain ⟨a, d, k, c, s, t, is, ks⟩ := v
  simp [ND.enc]
@[simp] theorem ND.all_fits (l : List ND) : (l.map ND.enc).all (FV.fits 8 true) = true := Ab.all_fits _ (fun v => v.enc_fits) l
def ND.a : ND → Int | .mk a _ _ _ _ _ _ _ => a
def ND.d : ND → Int | .mk _ d _ _ _ _ _ _ => d
def ND.k : ND → Int | .mk _ _ k _ _ _ _ _ => k
def ND.is : ND → List ND | .mk _ _ _ _ _ _ is _ => is
def ND.ks : ND → List ByteArray | .mk _ _ _ _ _ _ _ ks => ks
inductive ND.Sm : ND → Prop where
  | mk {a d k c s : Int} {t : ByteArray} {is : List ND} {ks : List ByteArray} (hi : is.length ≤ 150994944) (hk : ks.length ≤ 150994944) (ht : t.size ≤ 150994944) (hs : ∀ s ∈ ks, s.size ≤ 150994944) (h : ∀ v ∈ is, v.Sm) : (ND.mk a d k c s t is ks).Sm
mutual
def ND.cnt : ND → Nat
  | .mk _ _ _ _ _ _ is _ => 1 + ND.cnts is
def ND.cnts : List ND → Nat
  | [] => 0
  | v :: r => v.cnt + ND.cnts r
end
theorem ND.cnt_mk (a d k c s : Int) (t : ByteArray) (is : List ND) (ks : List ByteArray) : (ND.mk a d k c s t is ks).cnt = 1 + ND.cnts is := by simp [ND.cnt]
theorem ND.cnts_drop {l : List ND} {i : Nat} (h : i < l.length) : ND.cnts (l.drop i) = (l[i]).cnt + ND.cnts (l.drop (i + 1)) := by
  rw [drop_cons h, ND.cnts]
def capN (k c most : Int) : Int := if k ≥ most then k else if k + c ≥ most then most else k + c
theorem capN_zero {x m : Int} (h : x ≤ m) : capN x ((0 : Nat) : Int) m = x := by
  unfold capN
  by_cases h1 : x ≥ m
  · rw [if_pos h1]
  · rw [if_neg h1, if_neg (by omega)]; omega
theorem capN_add {x m : Int} (c1 c2 : Nat) : capN (capN x c1 m) c2 m = capN x ((c1 + c2 : Nat) : Int) m := by
  unfold capN
  by_cases h1 : x ≥ m
  · simp only [if_pos h1]
  · by_cases h2 : x + c1 ≥ m
    · rw [if_neg h1, if_pos h2, if_pos (Int.le_refl m), if_neg h1, if_pos (by omega)]
    · rw [if_neg h1, if_neg h2, if_neg h2, if_neg h1]
      by_cases h3 : x + c1 + c2 ≥ m
      · rw [if_pos h3, if_pos (by omega)]
      · rw [if_neg h3, if_neg (by omega)]; omega
theorem capN_one {x m : Int} (c : Nat) (h : ¬ x ≥ m) : capN (x + 1) c m = capN x ((1 + c : Nat) : Int) m := by
  unfold capN
  rw [if_neg h]
  by_cases h1 : x + 1 ≥ m
  · rw [if_pos h1, if_pos (by omega)]; omega
  · rw [if_neg h1]
    by_cases h2 : x + 1 + c ≥ m
    · rw [if_pos h2, if_pos (by omega)]
    · rw [if_neg h2, if_neg (by omega)]; omega
theorem capN_le {x m : Int} (c : Nat) (h : x ≤ m) (h0 : 0 ≤ x) : 0 ≤ capN x c m ∧ capN x c m ≤ m := by
  unfold capN
  by_cases h1 : x ≥ m
  · rw [if_pos h1]; omega
  · rw [if_neg h1]
    by_cases h2 : x + c ≥ m
    · rw [if_pos h2]; omega
    · rw [if_neg h2]; omega
theorem nsize_ok {v : ND} (hv : v.Sm) : ∀ n m : Int, 0 ≤ n → m ≤ 100000 → Rt0 N_ref09_Size [.fz v.enc, .fz (.int .i64 n), .fz (.int .i64 m)] = some ([.fz (.int .i64 (capN n v.cnt m))], []) := by
  induction hv with
  | @mk a d k c s t is ks hi hk ht hs h ih =>
    intro n m hn hm
    have loop : ∀ (j : Nat) (x : Int) (i : Nat), 0 ≤ x → x ≤ m → i + j = is.length → L_ref09_Size_1_0 Rt0 (is.length + 1) true (j + 1) x m i a d k c s t (is.map ND.enc) (ks.map .str) = some (.exit 0, X_ref09_Size_1_0 (capN x (ND.cnts (is.drop i)) m)) := by
      intro j
      induction j with
      | zero =>
        intro x i hx hxm hij
        rw [L_ref09_Size_1_0_eq, List.drop_eq_nil_of_le (by omega)]
        have e : capN x ((ND.cnts [] : Nat) : Int) m = x := by simpa [ND.cnts] using capN_zero hxm
        rw [e]
        simp [show ¬ ((i : Int) < (is.length : Int)) by omega]
      | succ j jh =>
        intro x i hx hxm hij
        have hl : i < is.length := by omega
        have h1 := ih is[i] (List.getElem_mem hl) x m hx hm
        have hc := capN_le (is[i]).cnt hxm hx
        have h2 := jh (capN x (is[i]).cnt m) (i + 1) hc.1 hc.2 (by omega)
        have e : capN (capN x (is[i]).cnt m) ((ND.cnts (is.drop (i + 1)) : Nat) : Int) m = capN x ((ND.cnts (is.drop i) : Nat) : Int) m := by
          rw [ND.cnts_drop hl]; exact capN_add _ _
        rw [e] at h2
        push_cast at h2
        rw [L_ref09_Size_1_0_eq]
        have hw : IntKind.wrap .i64 ((i : Int) + 1) = (i : Int) + 1 := wrap64 (by omega) (by omega)
        simp [show (i : Int) < (is.length : Int) by omega, List.getElem?_eq_getElem hl, h1, onR_some, hw, h2]
    by_cases hnm : n ≥ m
    · have e : capN n ((ND.mk a d k c s t is ks).cnt : Int) m = n := by unfold capN; rw [if_pos hnm]
      rw [e]
      refine rt_call0 A_ref09_Size rfl rfl 0 ?_
      rw [ND.enc_mk, E_ref09_Size]
      simp [hnm]
    · have hr := loop is.length (IntKind.wrap .i64 (n + 1)) 0 (by rw [wrap64 (by omega) (by omega)]; omega) (by rw [wrap64 (by omega) (by omega)]; omega) (by omega)
      have e : capN (n + 1) ((ND.cnts (is.drop 0) : Nat) : Int) m = capN n ((ND.mk a d k c s t is ks).cnt : Int) m := by
        rw [ND.cnt_mk, List.drop_zero]; exact capN_one _ hnm
      rw [show ((0 : Nat) : Int) = 0 from rfl] at hr
      refine rt_call0 A_ref09_Size rfl rfl (is.length + 1) ?_
      rw [ND.enc_mk, E_ref09_Size]
      simp only [show decide (n ≥ m) = false by simpa using hnm, ifB_false]
      rw [hr, onL_some, X_ref09_Size_1_0_eq, wrap64 (by omega) (by omega), e]
theorem nflat_tot {v : ND} (hv : v.Sm) : ∀ n : Int, ∃ b : Bool, Rt0 N_ref09_Flat [.fz v.enc, .fz (.int .i64 n)] = some ([.fz (.bool b)], []) := by
  induction hv with
  | @mk a d k c s t is ks hi hk ht hs h ih =>
    intro n
    have loop : ∀ (j : Nat) (i : Nat), i + j = is.length → ∃ b : Bool, onL (L_ref09_Flat_1_0 Rt0 (is.length + 1) true (j + 1) n i a d k c s t (is.map ND.enc) (ks.map .str)) (K_ref09_Flat_1 Rt0 (is.length + 1) true) = some ([.fz (.bool b)], []) := by
      intro j
      induction j with
      | zero =>
        intro i hij
        refine ⟨true, ?_⟩
        rw [L_ref09_Flat_1_0_eq]
        simp [show ¬ ((i : Int) < (is.length : Int)) by omega, onL_some, X_ref09_Flat_1_1_eq]
      | succ j jh =>
        intro i hij
        have hl : i < is.length := by omega
        obtain ⟨b1, h1⟩ := ih is[i] (List.getElem_mem hl) (IntKind.wrap .i64 (n - 1))
        obtain ⟨b, h2⟩ := jh (i + 1) (by omega)
        push_cast at h2
        have hw : IntKind.wrap .i64 ((i : Int) + 1) = (i : Int) + 1 := wrap64 (by omega) (by omega)
        rw [L_ref09_Flat_1_0_eq]
        cases b1 with
        | true => exact ⟨b, by simp [show (i : Int) < (is.length : Int) by omega, List.getElem?_eq_getElem hl, h1, onR_some, hw, h2]⟩
        | false => exact ⟨false, by simp [show (i : Int) < (is.length : Int) by omega, List.getElem?_eq_getElem hl, h1, onR_some, onL_some, X_ref09_Flat_1_0_eq]⟩
    by_cases hn : n < 0
    · refine ⟨false, rt_call0 A_ref09_Flat rfl rfl 0 ?_⟩
      rw [ND.enc_mk, E_ref09_Flat]
      simp [hn]
    · obtain ⟨b, hb⟩ := loop is.length 0 (by omega)
      refine ⟨b, rt_call0 A_ref09_Flat rfl rfl (is.length + 1) ?_⟩
      rw [ND.enc_mk, E_ref09_Flat]
      rw [show decide (n < 0) = false by simpa using hn, ifB_false]
      exact hb
theorem nlight_ok {v : ND} (hv : v.Sm) (n : Int) (h0 : 0 ≤ n) (h1 : n ≤ 9999) : ∃ b : Bool, Rt0 N_ref09_Light [.fz v.enc, .fz (.int .i64 n)] = some ([.fz (.bool b)], []) ∧ (b = true → (v.cnt : Int) ≤ n) := by
  have hsz := nsize_ok hv 0 (n + 1) (by omega) (by omega)
  obtain ⟨b, hb⟩ := nflat_tot hv 60
  obtain ⟨a, d, k, c, s, t, is, ks⟩ := v
  have hE := E_ref09_Light Rt0 0 true a d k c s t (is.map ND.enc) (ks.map .str) n
  rw [wrap64 (show -9223372036854775808 ≤ n + 1 by omega) (by omega), ← ND.enc_mk, hsz, hb] at hE
  by_cases q : capN 0 (ND.mk a d k c s t is ks).cnt (n + 1) ≤ n
  · refine ⟨b, rt_call0 A_ref09_Light rfl rfl 0 (hE.trans ?_), fun _ => ?_⟩
    · simp only [onR_some, List.isEmpty_nil, allF_cons, allF_nil, Bool.and_true, when_true', List.getD_cons_zero, toF_fz, isInt_int, toInt_int, decide_eq_true q, ifB_true, isBool_bool, toBool_bool]
    · unfold capN at q
      split at q
      · omega
      · split at q <;> omega
  · refine ⟨false, rt_call0 A_ref09_Light rfl rfl 0 (hE.trans ?_), fun h => by cases h⟩
    simp only [onR_some, List.isEmpty_nil, allF_cons, allF_nil, Bool.and_true, when_true', List.getD_cons_zero, toF_fz, isInt_int, toInt_int, decide_eq_false q, ifB_false]
end Go.Ab
end
section
namespace Go.Ab
structure Lt where
  n : Nat
  leq : Nat → Nat → Bool
  join : Nat → Nat → Nat
  meet : Nat → Nat → Nat
  bot : Nat
  top : Nat
structure Lt.Ok (L : Lt) : Prop where
  n1 : 1 ≤ L.n
  n8 : L.n ≤ 8
  bot : L.bot < L.n
  top : L.top < L.n
  botle : ∀ a, a < L.n → L.leq L.bot a = true
  letop : ∀ a, a < L.n → L.leq a L.top = true
  refl : ∀ a, a < L.n → L.leq a a = true
  anti : ∀ a b, a < L.n → b < L.n → L.leq a b = true → L.leq b a = true → a = b
  trans : ∀ a b c, a < L.n → b < L.n → c < L.n → L.leq a b = true → L.leq b c = true → L.leq a c = true
  join : ∀ a b, a < L.n → b < L.n → L.join a b < L.n
  joinl : ∀ a b, a < L.n → b < L.n → L.leq a (L.join a b) = true
  joinr : ∀ a b, a < L.n → b < L.n → L.leq b (L.join a b) = true
  joinm : ∀ a b c, a < L.n → b < L.n → c < L.n → L.leq a c = true → L.leq b c = true → L.leq (L.join a b) c = true
  meet : ∀ a b, a < L.n → b < L.n → L.meet a b < L.n
  meetl : ∀ a b, a < L.n → b < L.n → L.leq (L.meet a b) a = true
  meetr : ∀ a b, a < L.n → b < L.n → L.leq (L.meet a b) b = true
  meetm : ∀ a b c, a < L.n → b < L.n → c < L.n → L.leq c a = true → L.leq c b = true → L.leq c (L.meet a b) = true
structure IsLat (e : FV) (L : Lt) : Prop where
  ag : e.isAg 195 = true
  sl : (e.cell 0).isSl = true
  len : (e.cell 0).toSl.length = L.n
  leq : ∀ a b, a < L.n → b < L.n → e.cell (1 + a * 8 + b * 1) = .bool (L.leq a b)
  join : ∀ a b, a < L.n → b < L.n → e.cell (65 + a * 8 + b * 1) = .int .i64 (L.join a b)
  meet : ∀ a b, a < L.n → b < L.n → e.cell (129 + a * 8 + b * 1) = .int .i64 (L.meet a b)
  bot : e.cell 193 = .int .i64 L.bot
  top : e.cell 194 = .int .i64 L.top
  ok : L.Ok
structure IsTab (t : List FV) (L : Lt) : Prop where
  len : t.length = L.n
  fits : ∀ a, a < L.n → FV.fits 1 false (t.getD a .nilp) = true
  sl : ∀ a, a < L.n → (t.getD a .nilp).isSl = true
  rlen : ∀ a, a < L.n → (t.getD a .nilp).toSl.length = L.n
  cell : ∀ a b, a < L.n → b < L.n → (t.getD a .nilp).toSl.getD b .nilp = .bool (L.leq a b)
def Lt.is (L : Lt) (a : Int) : Bool := decide (0 ≤ a) && decide (a < L.n)
def Lt.leqI (L : Lt) (a b : Int) : Bool := L.is a && (L.is b && L.leq a.toNat b.toNat)
def Lt.joinI (L : Lt) (a b : Int) : Nat := if L.is a = true ∧ L.is b = true then L.join a.toNat b.toNat else L.top
theorem Lt.is_iff {L : Lt} {a : Int} : L.is a = true ↔ 0 ≤ a ∧ a < L.n := by simp [Lt.is]
theorem Lt.is_nat {L : Lt} {a : Nat} : L.is (a : Int) = decide (a < L.n) := by
  rw [Bool.eq_iff_iff, Lt.is_iff]; simp
theorem Lt.Ok.joinI_lt {L : Lt} (O : L.Ok) (a b : Int) : L.joinI a b < L.n := by
  unfold Lt.joinI
  split
  · rename_i h
    have h1 := Lt.is_iff.1 h.1
    have h2 := Lt.is_iff.1 h.2
    exact O.join _ _ (by omega) (by omega)
  · exact O.top
section
variable {e : FV} {L : Lt} (I : IsLat e L)
include I
theorem lat_Size : Rt0 N_level_Lattice_Size [.fz (.pt 195 true e 0)] = some ([.fz (.int .i64 L.n)], []) := by
  refine rt_call0 A_level_Lattice_Size rfl rfl 0 ?_
  rw [E_level_Lattice_Size, I.ag, I.sl, I.len]; simp
theorem lat_Is (a : Int) : Rt0 N_level_Lattice_Is [.fz (.pt 195 true e 0), .fz (.int .i64 a)] = some ([.fz (.bool (L.is a))], []) := by
  refine rt_call0 A_level_Lattice_Is rfl rfl 0 ?_
  rw [E_level_Lattice_Is, lat_Size I]
  unfold Lt.is
  by_cases h : 0 ≤ a
  · simp [onR_some, h]
  · simp [onR_some, h]
theorem lat_Top : Rt0 N_level_Lattice_Top [.fz (.pt 195 true e 0)] = some ([.fz (.int .i64 L.top)], []) := by
  refine rt_call0 A_level_Lattice_Top rfl rfl 0 ?_
  rw [E_level_Lattice_Top, I.ag, I.top]; simp
theorem lat_Bottom : Rt0 N_level_Lattice_Bottom [.fz (.pt 195 true e 0)] = some ([.fz (.int .i64 L.bot)], []) := by
  refine rt_call0 A_level_Lattice_Bottom rfl rfl 0 ?_
  rw [E_level_Lattice_Bottom, I.ag, I.bot]; simp
theorem lat_Leq (a b : Int) : Rt0 N_level_Lattice_Leq [.fz (.pt 195 true e 0), .fz (.int .i64 a), .fz (.int .i64 b)] = some ([.fz (.bool (L.leqI a b))], []) := by
  refine rt_call0 A_level_Lattice_Leq rfl rfl 0 ?_
  rw [E_level_Lattice_Leq, lat_Is I, lat_Is I]
  unfold Lt.leqI
  cases ha : L.is a with
  | false => simp [onR_some]
  | true =>
    cases hb : L.is b with
    | false => simp [onR_some]
    | true =>
      have h1 := Lt.is_iff.1 ha
      have h2 := Lt.is_iff.1 hb
      have h8 := I.ok.n8
      have hl := I.leq a.toNat b.toNat (by omega) (by omega)
      rw [I.ag]
      have c : Nat.blt (1 + a.toNat * 8 + b.toNat * 1) 195 = true := by rw [Nat.blt_eq]; omega
      rw [Nat.mul_one] at hl c
      simp [onR_some, hl, c, h1.1, h2.1, show a < 8 by omega, show b < 8 by omega]
theorem lat_Join (a b : Int) : Rt0 N_level_Lattice_Join [.fz (.pt 195 true e 0), .fz (.int .i64 a), .fz (.int .i64 b)] = some ([.fz (.int .i64 (L.joinI a b))], []) := by
  refine rt_call0 A_level_Lattice_Join rfl rfl 0 ?_
  rw [E_level_Lattice_Join, lat_Is I, lat_Is I, lat_Top I]
  unfold Lt.joinI
  cases ha : L.is a with
  | false => simp [onR_some]
  | true =>
    cases hb : L.is b with
    | false => simp [onR_some]
    | true =>
      have h1 := Lt.is_iff.1 ha
      have h2 := Lt.is_iff.1 hb
      have h8 := I.ok.n8
      have hl := I.join a.toNat b.toNat (by omega) (by omega)
      have c : Nat.blt (65 + a.toNat * 8 + b.toNat * 1) 195 = true := by rw [Nat.blt_eq]; omega
      rw [Nat.mul_one] at hl c
      simp [onR_some, J_level_Lattice_Join_1_0_eq, hl, I.ag, c, h1.1, h2.1, show a < 8 by omega, show b < 8 by omega]
end
end Go.Ab
end
section
namespace Go.Ab
abbrev Tb := Nat → Nat → Bool
def bT (f : Tb) : FV := .ag ((List.range 64).map fun i => .bool (f (i / 8) (i % 8)))
def upd2 (f : Tb) (a b : Nat) (v : Bool) : Tb := fun x y => if x = a ∧ y = b then v else f x y
def zT : Tb := fun _ _ => false
theorem z64 : FV.ag [.bool false, .bool false, .bool false, .bool false, .bool false, .bool false, .bool false, .bool false, .bool false, .bool false, .bool false, .bool false, .bool false, .bool false, .bool false, .bool false, .bool false, .bool false, .bool false, .bool false, .bool false, .bool false, .bool false, .bool false, .bool false, .bool false, .bool false, .bool false, .bool false, .bool false, .bool false, .bool false, .bool false, .bool false, .bool false, .bool false, .bool false, .bool false, .bool false, .bool false, .bool false, .bool false, .bool false, .bool false, .bool false, .bool false, .bool false, .bool false, .bool false, .bool false, .bool false, .bool false, .bool false, .bool false, .bool false, .bool false, .bool false, .bool false, .bool false, .bool false, .bool false, .bool false, .bool false, .bool false] = bT zT := by kernel_rfl
@[simp] theorem bT_ag (f : Tb) : FV.isAg 64 (bT f) = true := by simp [bT]
@[simp] theorem bT_fits (f : Tb) : FV.fits 64 true (bT f) = true := by simp [bT]
theorem bT_cell (f : Tb) {a b : Nat} (ha : a < 8) (hb : b < 8) : FV.cell (bT f) (a * 8 + b) = .bool (f a b) := by
  have h : a * 8 + b < 64 := by omega
  simp [bT, h, show (a * 8 + b) / 8 = a by omega, show (a * 8 + b) % 8 = b by omega]
theorem bT_set (f : Tb) {a b : Nat} (ha : a < 8) (hb : b < 8) (v : Bool) : FV.ag (List.set (FV.toAg (bT f)) (a * 8 + b) (.bool v)) = bT (upd2 f a b v) := by
  unfold bT
  simp only [toAg_ag]
  congr 1
  apply List.ext_getElem (by simp)
  intro i h1 h2
  have hi : i < 64 := by simpa using h2
  rw [List.getElem_set]
  simp only [List.getElem_map, List.getElem_range, upd2]
  by_cases e : a * 8 + b = i
  · subst e
    rw [if_pos rfl, if_pos (by constructor <;> omega)]
  · rw [if_neg e, if_neg (by rintro ⟨h3, h4⟩; omega)]
def Ag8 (f g : Tb) : Prop := ∀ a b, a < 8 → b < 8 → f a b = g a b
theorem bT_eq {f g : Tb} (h : Ag8 f g) : bT f = bT g := by
  unfold bT
  congr 1
  apply List.map_congr_left
  intro i hi
  have : i < 64 := by simpa using hi
  rw [h _ _ (by omega) (by omega)]
theorem bl64 {a b : Nat} (ha : a < 8) (hb : b < 8) : Nat.blt (a * 8 + b) 64 = true := by rw [Nat.blt_eq]; omega
def stp (f : Tb) (t : Nat × Nat × Nat) : Tb := upd2 f t.1 t.2.2 (f t.1 t.2.2 || (f t.1 t.2.1 && f t.2.1 t.2.2))
def Le (f g : Tb) : Prop := ∀ a b, f a b = true → g a b = true
def Tr (n : Nat) (f : Tb) : Prop := ∀ a b c, a < n → b < n → c < n → f a b = true → f b c = true → f a c = true
theorem Le.refl (f : Tb) : Le f f := fun _ _ h => h
theorem Le.trans {f g h : Tb} (x : Le f g) (y : Le g h) : Le f h := fun a b z => y a b (x a b z)
theorem stp_le (f : Tb) (t : Nat × Nat × Nat) : Le f (stp f t) := fun a b h => by
  unfold stp upd2
  split
  · rename_i e; rw [← e.1, ← e.2, h]; rfl
  · exact h
theorem stp_least {n : Nat} {f h : Tb} {t : Nat × Nat × Nat} (ht : t.1 < n ∧ t.2.1 < n ∧ t.2.2 < n) (hh : Tr n h) (l : Le f h) : Le (stp f t) h := fun a b e => by
  unfold stp upd2 at e
  split at e
  · rename_i q
    rw [q.1, q.2]
    rcases Bool.or_eq_true_iff.1 e with e | e
    · exact l _ _ e
    · rw [Bool.and_eq_true] at e
      exact hh _ _ _ ht.1 ht.2.1 ht.2.2 (l _ _ e.1) (l _ _ e.2)
  · exact l _ _ e
theorem fold_le : ∀ (l : List (Nat × Nat × Nat)) (f : Tb), Le f (l.foldl stp f)
  | [], f => Le.refl f
  | t :: l, f => (stp_le f t).trans (fold_le l _)
theorem fold_least {n : Nat} {h : Tb} (hh : Tr n h) : ∀ (l : List (Nat × Nat × Nat)) (f : Tb), (∀ t ∈ l, t.1 < n ∧ t.2.1 < n ∧ t.2.2 < n) → Le f h → Le (l.foldl stp f) h
  | [], f, _, l => l
  | t :: r, f, hl, l => fold_least hh r _ (fun t h => hl t (List.mem_cons_of_mem _ h)) (stp_least (hl t (List.mem_cons_self ..)) hh l)
theorem sandwich {f g h : Tb} (a : Le f g) (b : Le g h) (c : Ag8 h f) : Ag8 g f := fun x y hx hy => by
  cases hf : f x y with
  | true => exact a _ _ hf
  | false =>
    cases hg : g x y with
    | false => rfl
    | true => have := b _ _ hg; rw [c _ _ hx hy, hf] at this; cases this
theorem fold_fix : ∀ (l : List (Nat × Nat × Nat)) (f : Tb), (∀ t ∈ l, t.1 < 8 ∧ t.2.1 < 8 ∧ t.2.2 < 8) → Ag8 (l.foldl stp f) f → ∀ t ∈ l, f t.1 t.2.1 = true → f t.2.1 t.2.2 = true → f t.1 t.2.2 = true
  | [], f, _, _, t, ht => by cases ht
  | s :: r, f, hl, hA, t, ht => by
    have h1 : Ag8 (stp f s) f := sandwich (stp_le f s) (fold_le r _) hA
    have hs := hl s (List.mem_cons_self ..)
    rcases List.mem_cons.1 ht with rfl | ht
    · intro x y
      have := h1 t.1 t.2.2 hs.1 hs.2.2
      simpa [stp, upd2, x, y] using this
    · have h2 : Ag8 (r.foldl stp (stp f s)) (stp f s) := fun a b ha hb => (hA a b ha hb).trans (h1 a b ha hb).symm
      have := fold_fix r _ (fun t h => hl t (List.mem_cons_of_mem _ h)) h2 t ht
      have q := hl t (List.mem_cons_of_mem _ ht)
      rwa [h1 _ _ q.1 q.2.1, h1 _ _ q.2.1 q.2.2, h1 _ _ q.1 q.2.2] at this
def tri (a b c m : Nat) : List (Nat × Nat × Nat) := (List.range' c m).map fun c => (a, b, c)
def tri2 (n a b m : Nat) : List (Nat × Nat × Nat) := (List.range' b m).flatMap fun b => tri a b 0 n
def tri3 (n a m : Nat) : List (Nat × Nat × Nat) := (List.range' a m).flatMap fun a => tri2 n a 0 n
theorem tri3_mem {n : Nat} {t : Nat × Nat × Nat} : t ∈ tri3 n 0 n ↔ t.1 < n ∧ t.2.1 < n ∧ t.2.2 < n := by
  obtain ⟨a, b, c⟩ := t
  simp only [tri3, tri2, tri, List.mem_flatMap, List.mem_map, List.mem_range'_1, Prod.mk.injEq]
  constructor
  · rintro ⟨x, hx, y, hy, z, hz, rfl, rfl, rfl⟩
    exact ⟨by omega, by omega, by omega⟩
  · rintro ⟨h1, h2, h3⟩
    exact ⟨a, by omega, b, by omega, c, by omega, rfl, rfl, rfl⟩
def pass (n : Nat) (f : Tb) : Tb := (tri3 n 0 n).foldl stp f
structure Clo (n : Nat) (f g : Tb) : Prop where
  le : Le f g
  tr : Tr n g
  least : ∀ h, Le f h → Tr n h → Le g h
theorem Clo.uniq {n : Nat} {f g h : Tb} (x : Clo n f g) (y : Clo n f h) : ∀ a b, g a b = h a b := fun a b => by
  rw [Bool.eq_iff_iff]
  exact ⟨fun e => x.least h y.le y.tr a b e, fun e => y.least g x.le x.tr a b e⟩
def cnt (f : Tb) : Nat := ((List.range 64).filter fun i => f (i / 8) (i % 8)).length
theorem cnt_le (f : Tb) : cnt f ≤ 64 := by
  have := List.length_filter_le (fun i => f (i / 8) (i % 8)) (List.range 64)
  simpa [cnt] using this
theorem filt_lt {p q : Nat → Bool} : ∀ (l : List Nat), (∀ i ∈ l, p i = true → q i = true) → (∃ i ∈ l, p i = false ∧ q i = true) → (l.filter p).length < (l.filter q).length
  | [], _, ⟨_, h, _⟩ => by cases h
  | i :: l, h, hx => by
    have le : (l.filter p).length ≤ (l.filter q).length := by
      clear hx
      induction l with
      | nil => simp
      | cons j l ih =>
        have ih' := ih (fun k hk => h k (by rcases List.mem_cons.1 hk with rfl | hk; exact List.mem_cons_self ..; exact List.mem_cons_of_mem _ (List.mem_cons_of_mem _ hk)))
        have hj := h j (by simp)
        simp only [List.filter_cons]
        cases hp : p j with
        | true => rw [hj hp]; simpa using ih'
        | false => cases hq : q j <;> simp <;> omega
    simp only [List.filter_cons]
    cases hp : p i with
    | true =>
      rw [h i (by simp) hp]
      obtain ⟨k, hk, h1, h2⟩ := hx
      rcases List.mem_cons.1 hk with rfl | hk
      · rw [hp] at h1; cases h1
      · have := filt_lt l (fun j hj => h j (List.mem_cons_of_mem _ hj)) ⟨k, hk, h1, h2⟩
        simpa using this
    | false =>
      cases hq : q i with
      | true => simp; omega
      | false =>
        obtain ⟨k, hk, h1, h2⟩ := hx
        rcases List.mem_cons.1 hk with rfl | hk
        · rw [hq] at h2; cases h2
        · have := filt_lt l (fun j hj => h j (List.mem_cons_of_mem _ hj)) ⟨k, hk, h1, h2⟩
          simpa using this
theorem cnt_lt {f g : Tb} (l : Le f g) (h : ¬ Ag8 g f) : cnt f < cnt g := by
  refine filt_lt _ (fun i _ => l _ _) ?_
  simp only [Ag8] at h
  apply Classical.byContradiction
  intro hc
  apply h
  intro a b ha hb
  cases hf : f a b with
  | true => exact l _ _ hf
  | false =>
    cases hg : g a b with
    | false => rfl
    | true =>
      refine absurd ⟨a * 8 + b, ?_, ?_, ?_⟩ hc
      · simp; omega
      · rw [show (a * 8 + b) / 8 = a by omega, show (a * 8 + b) % 8 = b by omega]; exact hf
      · rw [show (a * 8 + b) / 8 = a by omega, show (a * 8 + b) % 8 = b by omega]; exact hg
theorem eks_bT (f g : Tb) : eksOk (List.replicate 64 .bool) (FV.toAg (bT f)) = true := by
  have : ∀ (l : List Bool), eksOk (List.replicate l.length .bool) (l.map .bool) = true := by
    intro l
    induction l with
    | nil => rfl
    | cons a l ih => simpa [List.replicate_succ, eksOk, ekOk] using ih
  have h := this ((List.range 64).map fun i => f (i / 8) (i % 8))
  simpa [bT, Function.comp_def] using h
theorem eksEq_bT (f g : Tb) : eksEq (List.replicate 64 .bool) (FV.toAg (bT f)) (FV.toAg (bT g)) = true ↔ Ag8 f g := by
  have : ∀ (l : List Nat), eksEq (List.replicate l.length .bool) (l.map fun i => .bool (f (i / 8) (i % 8))) (l.map fun i => .bool (g (i / 8) (i % 8))) = true ↔ ∀ i ∈ l, f (i / 8) (i % 8) = g (i / 8) (i % 8) := by
    intro l
    induction l with
    | nil => simp [eksEq]
    | cons a l ih => simp [List.replicate_succ, eksEq, ekEq, ih]
  have h := this (List.range 64)
  simp only [List.length_range] at h
  simp only [bT, toAg_ag]
  rw [h]
  constructor
  · intro h a b ha hb
    have := h (a * 8 + b) (by simp; omega)
    rwa [show (a * 8 + b) / 8 = a by omega, show (a * 8 + b) % 8 = b by omega] at this
  · intro h i hi
    have : i < 64 := by simpa using hi
    exact h _ _ (by omega) (by omega)
end Go.Ab
end
section
namespace Go.Ab
theorem wrn {c : Nat} (h : c < 1152921504606846976) : IntKind.wrap .i64 ((c : Int) + 1) = ((c + 1 : Nat) : Int) := by
  rw [wrap64 (by omega) (by omega)]; simp
theorem lt8 {a : Nat} (h : a < 8) : (decide ((0 : Int) ≤ (a : Int)) && decide ((a : Int) < 8)) = true := by simp; omega
theorem closed1 {a b n K : Nat} (ha : a < 8) (hb : b < 8) (hn : n ≤ 8) (x10 x11 x14 x15 : Int) (y z : FV) : ∀ (m c N : Nat) (f : Tb), c + m = n → m < N →
    L_level_closed_1_0 Rt0 K true N n a b x10 x11 x14 x15 n c (bT f) y z = some (.exit 6, X_level_closed_1_0 n a x10 x11 x14 x15 (bT ((tri a b c m).foldl stp f)) y z)
  | m, c, 0, f, _, h => by omega
  | 0, c, N + 1, f, h, _ => by
    rw [L_level_closed_1_0_eq]
    simp [show ¬ ((c : Int) < (n : Int)) by omega, tri]
  | m + 1, c, N + 1, f, h, hN => by
    have hc : c < 8 := by omega
    have ih := fun g => closed1 (K := K) ha hb hn x10 x11 x14 x15 y z m (c + 1) N g (by omega) (by omega)
    have ht : tri a b c (m + 1) = (a, b, c) :: tri a b (c + 1) m := by simp [tri, List.range'_succ]
    rw [L_level_closed_1_0_eq, ht]
    have hlt : decide ((c : Int) < (n : Int)) = true := by simp; omega
    have e1 := bT_cell f ha hc
    have e2 := bT_cell f ha hb
    have e3 := bT_cell f hb hc
    have s1 := bT_set f ha hc
    simp only [hlt, ifB_true, lt8 ha, lt8 hb, lt8 hc, when_true', bT_ag, Int.toNat_natCast, Nat.zero_add, Nat.mul_one, bl64 ha hc, bl64 ha hb, bl64 hb hc, e1, e2, e3, s1, isBool_bool, toBool_bool, Bool.and_true, wrn (show c < 1152921504606846976 by omega), ih, List.foldl_cons]
    have hs : stp f (a, b, c) = upd2 f a c (f a c || (f a b && f b c)) := rfl
    rw [hs]
    cases h1 : f a c with
    | true => simp only [ifB_true, Bool.true_or]
    | false =>
      cases h2 : f a b with
      | true => simp only [ifB_true, ifB_false, Bool.false_or, Bool.true_and]
      | false => simp only [ifB_false, Bool.false_or, Bool.false_and]
theorem closed2 {a n K : Nat} (ha : a < 8) (hn : n ≤ 8) (hK : 8 < K) (x10 x11 : Int) (y z : FV) : ∀ (m b N : Nat) (f : Tb), b + m = n → m < N →
    L_level_closed_2_0 Rt0 K true N n a x10 x11 n b (bT f) y z = some (.exit 4, X_level_closed_2_0 n x10 x11 (bT ((tri2 n a b m).foldl stp f)) y z)
  | m, b, 0, f, _, h => by omega
  | 0, b, N + 1, f, h, _ => by
    rw [L_level_closed_2_0_eq]
    simp [show ¬ ((b : Int) < (n : Int)) by omega, tri2]
  | m + 1, b, N + 1, f, h, hN => by
    have hb : b < 8 := by omega
    have ih := fun g => closed2 ha hn hK x10 x11 y z m (b + 1) N g (by omega) (by omega)
    have ht : tri2 n a b (m + 1) = tri a b 0 n ++ tri2 n a (b + 1) m := by simp [tri2, List.range'_succ]
    rw [L_level_closed_2_0_eq, ht]
    have hlt : decide ((b : Int) < (n : Int)) = true := by simp; omega
    have h1 := closed1 (K := K) ha hb hn x10 x11 n b y z n 0 K f (by omega) (by omega)
    simp only [Int.natCast_zero] at h1
    simp only [hlt, ifB_true, h1, onL_some, X_level_closed_1_0_eq, wrn (show b < 1152921504606846976 by omega), ih, List.foldl_append]
theorem closed3 {n K : Nat} (hn : n ≤ 8) (hK : 8 < K) (y z : FV) : ∀ (m a N : Nat) (f : Tb), a + m = n → m < N →
    L_level_closed_3_0 Rt0 K true N n n a (bT f) y z = some (.exit 2, X_level_closed_3_0 n (bT ((tri3 n a m).foldl stp f)) y z)
  | m, b, 0, f, _, h => by omega
  | 0, a, N + 1, f, h, _ => by
    rw [L_level_closed_3_0_eq]
    simp [show ¬ ((a : Int) < (n : Int)) by omega, tri3]
  | m + 1, a, N + 1, f, h, hN => by
    have ha : a < 8 := by omega
    have ih := fun g => closed3 hn hK y z m (a + 1) N g (by omega) (by omega)
    have ht : tri3 n a (m + 1) = tri2 n a 0 n ++ tri3 n (a + 1) m := by simp [tri3, List.range'_succ]
    rw [L_level_closed_3_0_eq, ht]
    have hlt : decide ((a : Int) < (n : Int)) = true := by simp; omega
    have h1 := closed2 (K := K) ha hn hK n a y z n 0 K f (by omega) (by omega)
    simp only [Int.natCast_zero] at h1
    simp only [hlt, ifB_true, h1, onL_some, X_level_closed_2_0_eq, wrn (show a < 1152921504606846976 by omega), ih, List.foldl_append]
theorem pass_clo {n : Nat} (hn : n ≤ 8) {f0 f : Tb} (h1 : Le f0 f) (h2 : ∀ h, Le f0 h → Tr n h → Le f h) (hA : Ag8 (pass n f) f) : Clo n f0 f := by
  refine ⟨h1, fun a b c ha hb hc x y => ?_, h2⟩
  exact fold_fix (tri3 n 0 n) f (fun t ht => by have := tri3_mem.1 ht; omega) hA (a, b, c) (tri3_mem.2 ⟨ha, hb, hc⟩) x y
theorem closed4 {n K : Nat} (hn : n ≤ 8) (hK : 8 < K) (y : FV) {f0 : Tb} : ∀ (N : Nat) (f : Tb), 65 ≤ N + cnt f → Le f0 f → (∀ h, Le f0 h → Tr n h → Le f h) →
    ∃ g, Clo n f0 g ∧ L_level_closed_4_0 Rt0 K true N n (bT f) y = some (.ret, X_level_closed_4_0 (bT g))
  | 0, f, h, _, _ => by have := cnt_le f; omega
  | N + 1, f, h, h1, h2 => by
    rw [L_level_closed_4_0_eq]
    have c3 := closed3 (K := K) hn hK y (bT f) n 0 K f (by omega) (by omega)
    simp only [Int.natCast_zero] at c3
    have hle : Le f (pass n f) := fold_le _ _
    simp only [bT_fits, when_true', c3, onL_some, X_level_closed_3_0_eq, bT_ag, Bool.and_true]
    show ∃ g, Clo n f0 g ∧ when (eksOk _ (FV.toAg (bT (pass n f))) && eksOk _ (FV.toAg (bT f))) (ifB (eksEq _ (FV.toAg (bT (pass n f))) (FV.toAg (bT f))) (when (FV.fits 64 true (bT (pass n f))) (some (.ret, X_level_closed_4_0 (bT (pass n f))))) (L_level_closed_4_0 Rt0 K true N n (bT (pass n f)) y)) = _
    rw [eks_bT _ f, eks_bT _ f]
    simp only [Bool.and_true, when_true', bT_fits]
    cases hq : eksEq (List.replicate 64 .bool) (FV.toAg (bT (pass n f))) (FV.toAg (bT f)) with
    | true =>
      have hA := (eksEq_bT _ _).1 hq
      refine ⟨f, pass_clo hn h1 h2 hA, ?_⟩
      rw [ifB_true, bT_eq hA]
    | false =>
      rw [ifB_false]
      have hA : ¬ Ag8 (pass n f) f := fun h => by rw [(eksEq_bT _ _).2 h] at hq; cases hq
      have := cnt_lt hle hA
      exact closed4 hn hK y N (pass n f) (by omega) (h1.trans hle) (fun h q t => fold_least t _ f (fun x hx => tri3_mem.1 hx) (h2 h q t))
theorem closed_ok {n : Nat} (hn : n ≤ 8) (f : Tb) : ∃ g, Clo n f g ∧ Rt0 N_level_closed [.fz (bT f), .fz (.int .i64 n)] = some ([.fz (bT g)], []) := by
  obtain ⟨g, hg, h⟩ := closed4 (K := 70) hn (by omega) (bT zT) (f0 := f) 70 f (by omega) (Le.refl f) (fun h q _ => q)
  refine ⟨g, hg, ?_⟩
  refine rt_call0 A_level_closed rfl rfl 70 ?_
  rw [E_level_closed]
  have hz := z64
  rw [hz, bT_fits, when_true', h, onL_some, X_level_closed_4_0_eq]
def trnTo (f : Tb) (r : Nat) : Tb := fun x y => if y * 8 + x < r then f y x else false
theorem trnTo_set (f : Tb) {a b : Nat} (ha : a < 8) (hb : b < 8) : Ag8 (upd2 (trnTo f (a * 8 + b)) b a (f a b)) (trnTo f (a * 8 + (b + 1))) := fun x y hx hy => by
  unfold upd2 trnTo
  by_cases e : x = b ∧ y = a
  · rw [if_pos e, if_pos (by omega), e.1, e.2]
  · rw [if_neg e]
    by_cases h : y * 8 + x < a * 8 + b
    · rw [if_pos h, if_pos (by omega)]
    · rw [if_neg h, if_neg (by omega)]
theorem turned1 {a K : Nat} (ha : a < 8) (f : Tb) (x6 : Int) (y : FV) : ∀ (m b N : Nat), b + m = 8 → m < N →
    L_level_turned_1_0 Rt0 K true N a x6 b (bT f) y (bT (trnTo f (a * 8 + b))) = some (.exit 2, X_level_turned_1_0 x6 (bT f) y (bT (trnTo f (a * 8 + 8))))
  | m, b, 0, _, h => by omega
  | 0, b, N + 1, h, _ => by
    rw [L_level_turned_1_0_eq]
    obtain rfl : b = 8 := by omega
    simp
  | m + 1, b, N + 1, h, hN => by
    have hb : b < 8 := by omega
    have ih := turned1 (K := K) ha f x6 y m (b + 1) N (by omega) (by omega)
    rw [L_level_turned_1_0_eq]
    have hlt : decide ((b : Int) < 8) = true := by simp; omega
    have h00 : decide ((0 : Int) ≤ (b : Int)) = true := by simp
    simp only [hlt, h00, ifB_true, lt8 ha, lt8 hb, when_true', bT_ag, Int.toNat_natCast, Nat.zero_add, Nat.mul_one, bl64 ha hb, bl64 hb ha, bT_cell f ha hb, bT_set _ hb ha, isBool_bool, toBool_bool, Bool.and_true, wrn (show b < 1152921504606846976 by omega), bT_eq (trnTo_set f ha hb), ih]
theorem turned2 {K : Nat} (hK : 9 < K) (f : Tb) (y : FV) : ∀ (m a N : Nat), a + m = 8 → m < N →
    L_level_turned_2_0 Rt0 K true N a (bT f) y (bT (trnTo f (a * 8))) = some (.exit 0, X_level_turned_2_0 y (bT (trnTo f 64)))
  | m, b, 0, _, h => by omega
  | 0, a, N + 1, h, _ => by
    rw [L_level_turned_2_0_eq]
    obtain rfl : a = 8 := by omega
    simp
  | m + 1, a, N + 1, h, hN => by
    have ha : a < 8 := by omega
    have ih := turned2 (K := K) hK f y m (a + 1) N (by omega) (by omega)
    rw [L_level_turned_2_0_eq]
    have hlt : decide ((a : Int) < 8) = true := by simp; omega
    have h1 := turned1 (K := K) ha f a y 8 0 K (by omega) (by omega)
    simp only [Int.natCast_zero, Nat.add_zero] at h1
    rw [show (a + 1) * 8 = a * 8 + 8 by omega] at ih
    simp only [hlt, ifB_true, h1, onL_some, X_level_turned_1_0_eq, wrn (show a < 1152921504606846976 by omega), ih]
theorem turned_ok (f : Tb) : Rt0 N_level_turned [.fz (bT f)] = some ([.fz (bT fun a b => f b a)], []) := by
  refine rt_call0 A_level_turned rfl rfl 12 ?_
  rw [E_level_turned]
  have ht : bT zT = bT (trnTo f 0) := bT_eq (fun a b _ _ => by simp [trnTo, zT])
  have hz := z64.trans ht
  have h2 := turned2 (K := 12) (by omega) f (bT (trnTo f 0)) 8 0 12 (by omega) (by omega)
  simp only [Int.natCast_zero, Nat.zero_mul] at h2
  rw [hz, bT_fits, when_true', h2, onL_some, X_level_turned_2_0_eq, bT_fits, when_true']
  have : bT (trnTo f 64) = bT (fun a b => f b a) := bT_eq (fun a b ha hb => by unfold trnTo; rw [if_pos (by omega)])
  rw [this]
def lub (f : Tb) (n a b c : Nat) : Bool := (List.range n).all fun d => !f a d || (!f b d || f c d)
def ovr (f : Tb) (n a b : Nat) : Nat → Nat → Int
  | 0, _ => -1
  | m + 1, c => if f a c && (f b c && lub f n a b c) then c else ovr f n a b m (c + 1)
def lubTo (f : Tb) (a b c d : Nat) : Bool := (List.range d).all fun d => !f a d || (!f b d || f c d)
theorem lubTo_succ (f : Tb) (a b c d : Nat) : lubTo f a b c (d + 1) = (lubTo f a b c d && (!f a d || (!f b d || f c d))) := by
  simp [lubTo, List.range_succ, List.all_append]
theorem over1 {a b c n K : Nat} (ha : a < 8) (hb : b < 8) (hc : c < 8) (hn : n ≤ 8) (f : Tb) (x12 x13 : Int) : ∀ (m d N : Nat), d + m = n → m < N →
    L_level_over_1_0 Rt0 K true N n a b c (lubTo f a b c d) x12 x13 n d (bT f) = some (.exit 2, X_level_over_1_0 n a b c (lub f n a b c) x12 x13 (bT f))
  | m, b, 0, _, h => by omega
  | 0, d, N + 1, h, _ => by
    rw [L_level_over_1_0_eq]
    obtain rfl : d = n := by omega
    simp [lubTo, lub]
  | m + 1, d, N + 1, h, hN => by
    have hd : d < 8 := by omega
    have ih := over1 (K := K) ha hb hc hn f x12 x13 m (d + 1) N (by omega) (by omega)
    rw [L_level_over_1_0_eq]
    have hlt : decide ((d : Int) < (n : Int)) = true := by simp; omega
    rw [lubTo_succ] at ih
    simp only [hlt, ifB_true, lt8 ha, lt8 hb, lt8 hc, lt8 hd, when_true', bT_ag, Int.toNat_natCast, Nat.zero_add, Nat.mul_one, bl64 ha hd, bl64 hb hd, bl64 hc hd, bT_cell f ha hd, bT_cell f hb hd, bT_cell f hc hd, isBool_bool, toBool_bool, wrn (show d < 1152921504606846976 by omega)]
    cases h0 : lubTo f a b c d with
    | false => rw [h0, Bool.false_and] at ih; rw [ifB_false]; exact ih
    | true =>
      rw [h0, Bool.true_and] at ih
      rw [ifB_true]
      cases h1 : f a d with
      | false => rw [h1] at ih; exact ih
      | true =>
        cases h2 : f b d with
        | false => rw [h1, h2] at ih; exact ih
        | true => rw [h1, h2] at ih; exact ih
theorem over2 {a b n K : Nat} (ha : a < 8) (hb : b < 8) (hn : n ≤ 8) (hK : 8 < K) (f : Tb) : ∀ (m c N : Nat), c + m = n → m < N →
    onL (L_level_over_2_0 Rt0 K true N n a b n c (bT f)) (K_level_over_2 Rt0 K true) = some ([.fz (.int .i64 (ovr f n a b m c))], [])
  | m, b, 0, _, h => by omega
  | 0, c, N + 1, h, _ => by
    rw [L_level_over_2_0_eq]
    simp [show ¬ ((c : Int) < (n : Int)) by omega, onL_some, X_level_over_2_0_eq, ovr]
  | m + 1, c, N + 1, h, hN => by
    have hc : c < 8 := by omega
    have ih := over2 (K := K) ha hb hn hK f m (c + 1) N (by omega) (by omega)
    rw [L_level_over_2_0_eq]
    have hlt : decide ((c : Int) < (n : Int)) = true := by simp; omega
    have h1 := over1 (K := K) ha hb hc hn f n c n 0 K (by omega) (by omega)
    have hl0 : lubTo f a b c 0 = true := rfl
    simp only [Int.natCast_zero, hl0] at h1
    simp only [hlt, ifB_true, lt8 ha, lt8 hb, lt8 hc, when_true', bT_ag, Int.toNat_natCast, Nat.zero_add, Nat.mul_one, bl64 ha hc, bl64 hb hc, bT_cell f ha hc, bT_cell f hb hc, isBool_bool, toBool_bool, wrn (show c < 1152921504606846976 by omega), ovr]
    cases q1 : f a c with
    | false => simpa using ih
    | true =>
      cases q2 : f b c with
      | false => simpa using ih
      | true =>
        simp only [Bool.not_true, ifB_false, jump_true, J_level_over_2_0_eq, h1, onL_some, X_level_over_1_0_eq, Bool.true_and, wrn (show c < 1152921504606846976 by omega)]
        cases q3 : lub f n a b c with
        | true => simp [onL_some, X_level_over_2_1_eq]
        | false => simpa using ih
theorem over_ok {a b n : Nat} (ha : a < 8) (hb : b < 8) (hn : n ≤ 8) (f : Tb) : Rt0 N_level_over [.fz (bT f), .fz (.int .i64 n), .fz (.int .i64 a), .fz (.int .i64 b)] = some ([.fz (.int .i64 (ovr f n a b n 0))], []) := by
  refine rt_call0 A_level_over rfl rfl 12 ?_
  rw [E_level_over, bT_fits, when_true']
  exact over2 ha hb hn (by omega) f n 0 12 (by omega) (by omega)
def tws1 (f : Tb) (a : Nat) : Nat → Nat → Bool
  | 0, _ => false
  | m + 1, b => (f a b && f b a) || tws1 f a m (b + 1)
def tws2 (f : Tb) : Nat → Nat → Bool
  | 0, _ => false
  | m + 1, a => tws1 f a a 0 || tws2 f m (a + 1)
theorem twisted1 {a K : Nat} (ha : a < 8) (f : Tb) (x7 x8 : Int) : ∀ (m b N : Nat), b + m = a → m < N →
    L_level_twisted_1_0 Rt0 K true N a x7 x8 a b (bT f) = some (match tws1 f a m b with | true => (.ret, X_level_twisted_1_0 true x7 x8 (bT f)) | false => (.exit 2, X_level_twisted_1_1 x7 x8 (bT f)))
  | m, b, 0, _, h => by omega
  | 0, b, N + 1, h, _ => by
    rw [L_level_twisted_1_0_eq]
    simp [show ¬ ((b : Int) < (a : Int)) by omega, tws1]
  | m + 1, b, N + 1, h, hN => by
    have hb : b < 8 := by omega
    have ih := twisted1 (K := K) ha f x7 x8 m (b + 1) N (by omega) (by omega)
    rw [L_level_twisted_1_0_eq]
    have hlt : decide ((b : Int) < (a : Int)) = true := by simp; omega
    simp only [hlt, ifB_true, lt8 ha, lt8 hb, when_true', bT_ag, Int.toNat_natCast, Nat.zero_add, Nat.mul_one, bl64 ha hb, bl64 hb ha, bT_cell f ha hb, bT_cell f hb ha, isBool_bool, toBool_bool, wrn (show b < 1152921504606846976 by omega), tws1, ih]
    cases q1 : f a b <;> cases q2 : f b a <;> simp
theorem twisted2 {n K : Nat} (hn : n ≤ 8) (hK : 8 < K) (f : Tb) : ∀ (m a N : Nat), a + m = n → m < N →
    onL (L_level_twisted_2_0 Rt0 K true N n a (bT f)) (K_level_twisted_2 Rt0 K true) = some ([.fz (.bool (tws2 f m a))], [])
  | m, a, 0, _, h => by omega
  | 0, a, N + 1, h, _ => by
    rw [L_level_twisted_2_0_eq]
    simp [show ¬ ((a : Int) < (n : Int)) by omega, tws2, onL_some, X_level_twisted_2_0_eq]
  | m + 1, a, N + 1, h, hN => by
    have ha : a < 8 := by omega
    have ih := twisted2 (K := K) hn hK f m (a + 1) N (by omega) (by omega)
    rw [L_level_twisted_2_0_eq]
    have hlt : decide ((a : Int) < (n : Int)) = true := by simp; omega
    have h1 := twisted1 (K := K) ha f n a a 0 K (by omega) (by omega)
    simp only [Int.natCast_zero] at h1
    simp only [hlt, ifB_true, h1, tws2]
    cases q : tws1 f a a 0 with
    | true => simp only [onL_some, X_level_twisted_1_0_eq, X_level_twisted_2_1_eq, Bool.true_or]
    | false => simp only [onL_some, X_level_twisted_1_1_eq, wrn (show a < 1152921504606846976 by omega), ih, Bool.false_or]
theorem twisted_ok {n : Nat} (hn : n ≤ 8) (f : Tb) : Rt0 N_level_twisted [.fz (bT f), .fz (.int .i64 n)] = some ([.fz (.bool (tws2 f n 0))], []) := by
  refine rt_call0 A_level_twisted rfl rfl 12 ?_
  rw [E_level_twisted, bT_fits, when_true']
  exact twisted2 hn (by omega) f n 0 12 (by omega) (by omega)
end Go.Ab
end
section
namespace Go.Ab
def allI (p : Nat → Bool) : Nat → Nat → Bool
  | 0, _ => true
  | m + 1, i => p i && allI p m (i + 1)
theorem allI_iff {p : Nat → Bool} : ∀ {m i : Nat}, allI p m i = true ↔ ∀ j, i ≤ j → j < i + m → p j = true
  | 0, i => by simp [allI]; intro j h1 h2; omega
  | m + 1, i => by
    simp only [allI, Bool.and_eq_true, allI_iff (m := m)]
    constructor
    · rintro ⟨h1, h2⟩ j hj hm
      by_cases e : i = j
      · subst e; exact h1
      · exact h2 j (by omega) (by omega)
    · intro h
      exact ⟨h i (by omega) (by omega), fun j h1 h2 => h j (by omega) (by omega)⟩
def byt (s : ByteArray) (i : Nat) : Nat := (Array.getD s.data i 0).toNat
def okC (s : ByteArray) (i : Nat) : Bool := (decide (97 ≤ byt s i) && decide (byt s i ≤ 122)) || ((decide (48 ≤ byt s i) && decide (byt s i ≤ 57)) && !(i == 0))
def nmB (s : ByteArray) : Bool := decide (1 ≤ s.size) && (decide (s.size ≤ 16) && allI (okC s) s.size 0)
theorem name1 {K : Nat} (s : ByteArray) (hs : s.size ≤ 16) : ∀ (m i N : Nat), i + m = s.size → m < N →
    onL (L_level_Name_1_0 Rt0 K true N s s.size i) (K_level_Name_1 Rt0 K true) = some ([.fz (.bool (allI (okC s) m i))], [])
  | m, b, 0, _, h => by omega
  | 0, i, N + 1, h, _ => by
    rw [L_level_Name_1_0_eq]
    simp [show ¬ ((i : Int) < (s.size : Int)) by omega, onL_some, X_level_Name_1_0_eq, allI]
  | m + 1, i, N + 1, h, hN => by
    have ih := name1 (K := K) s hs m (i + 1) N (by omega) (by omega)
    rw [L_level_Name_1_0_eq]
    have hlt : decide ((i : Int) < (s.size : Int)) = true := by simp; omega
    have h00 : decide ((0 : Int) ≤ (i : Int)) = true := by simp
    have hb : ((Array.getD (ByteArray.data s) i 0).toNat) = byt s i := rfl
    have w := wrn (show i < 1152921504606846976 by omega)
    have g1 : decide (((byt s i : Nat) : Int) ≥ 97) = decide (97 ≤ byt s i) := by rw [decide_eq_decide]; omega
    have g2 : decide (((byt s i : Nat) : Int) ≤ 122) = decide (byt s i ≤ 122) := by rw [decide_eq_decide]; omega
    have g3 : decide (((byt s i : Nat) : Int) ≥ 48) = decide (48 ≤ byt s i) := by rw [decide_eq_decide]; omega
    have g4 : decide (((byt s i : Nat) : Int) ≤ 57) = decide (byt s i ≤ 57) := by rw [decide_eq_decide]; omega
    have g5 : ((i : Int) == 0) = (i == 0) := by rw [Bool.eq_iff_iff]; simp
    simp only [hlt, h00, ifB_true, when_true', Bool.and_true, Int.toNat_natCast, hb, J_level_Name_2_0_eq, J_level_Name_1_0_eq, jump_true, w, g1, g2, g3, g4, g5, allI, okC]
    cases h1 : decide (97 ≤ byt s i) <;> cases h2 : decide (byt s i ≤ 122) <;> cases h3 : decide (48 ≤ byt s i) <;> cases h4 : decide (byt s i ≤ 57) <;> cases h5 : (i == 0) <;>
      simp only [ifB_true, ifB_false, Bool.not_true, Bool.not_false, Bool.true_and, Bool.and_true, Bool.false_and, Bool.and_false, Bool.true_or, Bool.or_true, Bool.false_or, Bool.or_false, onL_some, X_level_Name_1_1_eq, ih]
theorem Name_ok (s : ByteArray) : Rt0 N_level_Name [.fz (.str s)] = some ([.fz (.bool (nmB s))], []) := by
  refine rt_call0 A_level_Name rfl rfl 20 ?_
  rw [E_level_Name]
  have e0 : (s.toList == (⟨#[]⟩ : ByteArray).toList) = decide (s.size = 0) := by
    rw [bytes_beq, decide_eq_decide]
    constructor
    · intro h; subst h; rfl
    · intro h; cases s with | mk d => cases d with | mk l => cases l with | nil => rfl | cons a l => simp [ByteArray.size] at h
  rw [e0]
  unfold nmB
  by_cases h : s.size = 0
  · simp [h]
  · by_cases h2 : s.size ≤ 16
    · have hg : decide ((s.size : Int) > 16) = false := by simp; omega
      have n1 := name1 (K := 20) s h2 s.size 0 20 (by omega) (by omega)
      simp only [Int.natCast_zero] at n1
      simp [h, hg, J_level_Name_5_0_eq, n1, h2, show 1 ≤ s.size by omega]
    · have hg : decide ((s.size : Int) > 16) = true := by simp; omega
      simp [h, hg, h2]
def strs (l : List ByteArray) : List FV := l.map .str
@[simp] theorem strs_len (l : List ByteArray) : (strs l).length = l.length := by simp [strs]
theorem strs_get {l : List ByteArray} {i : Nat} (h : i < l.length) : (strs l).getD i .nilp = .str (l.getD i ByteArray.empty) := by simp [strs, h]
@[simp] theorem strs_fits (l : List ByteArray) : (strs l).all (FV.fits 1 false) = true := all_fits_str l
def anyI (p : Nat → Bool) : Nat → Nat → Bool
  | 0, _ => false
  | m + 1, i => p i || anyI p m (i + 1)
def isN (l : List ByteArray) (i j : Nat) : Bool := decide (l.getD i ByteArray.empty = l.getD j ByteArray.empty)
def namedB (l : List ByteArray) : Bool := decide (1 ≤ l.length) && (decide (l.length ≤ 8) && allI (fun i => nmB (l.getD i ByteArray.empty) && !anyI (isN l i) i 0) l.length 0)
theorem named1 {K : Nat} (l : List ByteArray) (i : Nat) (hi : i < l.length) (h8 : l.length ≤ 8) (x0 x15 : List FV) (x16 x17 : Int) : ∀ (m j N : Nat), j + m = i → m < N →
    L_level_named_1_0 Rt0 K true N x0 (l.getD i ByteArray.empty) x15 x16 x17 ((strs l).take i) i j = some (match anyI (isN l i) m j with | true => (.ret, X_level_named_1_0 x0 false x15 x16 x17) | false => (.exit 2, X_level_named_1_1 x0 x15 x16 x17))
  | m, b, 0, _, h => by omega
  | 0, j, N + 1, h, _ => by
    rw [L_level_named_1_0_eq]
    simp [show ¬ ((j : Int) < (i : Int)) by omega, anyI]
  | m + 1, j, N + 1, h, hN => by
    have ih := named1 (K := K) l i hi h8 x0 x15 x16 x17 m (j + 1) N (by omega) (by omega)
    rw [L_level_named_1_0_eq]
    have hlt : decide ((j : Int) < (i : Int)) = true := by simp; omega
    have h00 : decide ((0 : Int) ≤ (j : Int)) = true := by simp
    have hlen : ((strs l).take i).length = i := by simp; omega
    have hg : ((strs l).take i).getD j .nilp = .str (l.getD j ByteArray.empty) := by
      rw [List.getD_eq_getElem?_getD, List.getElem?_take, if_pos (by omega), ← List.getD_eq_getElem?_getD, strs_get (by omega)]
    have w := wrn (show j < 1152921504606846976 by omega)
    simp only [hlen, hlt, h00, hg, ifB_true, when_true', Bool.and_true, Int.toNat_natCast, fits_str, isStr_str, toStr_str, w, ih, bytes_beq, anyI, isN]
    cases decide (l.getD i ByteArray.empty = l.getD j ByteArray.empty) <;> simp only [ifB_true, ifB_false, Bool.true_or, Bool.false_or]
theorem named2 {K : Nat} (l : List ByteArray) (h8 : l.length ≤ 8) (hK : 8 < K) : ∀ (m i N : Nat), i + m = l.length → m < N →
    onL (L_level_named_2_0 Rt0 K true N (strs l) (strs l) l.length i) (K_level_named_2 Rt0 K true) = some ([.fz (.bool (allI (fun i => nmB (l.getD i ByteArray.empty) && !anyI (isN l i) i 0) m i))], [])
  | m, b, 0, _, h => by omega
  | 0, i, N + 1, h, _ => by
    rw [L_level_named_2_0_eq]
    simp [show ¬ ((i : Int) < (l.length : Int)) by omega, onL_some, X_level_named_2_1_eq, allI]
  | m + 1, i, N + 1, h, hN => by
    have ih := named2 (K := K) l h8 hK m (i + 1) N (by omega) (by omega)
    rw [L_level_named_2_0_eq]
    have hlt : decide ((i : Int) < (l.length : Int)) = true := by simp; omega
    have hle : decide ((i : Int) ≤ (l.length : Int)) = true := by simp; omega
    have h00 : decide ((0 : Int) ≤ (i : Int)) = true := by simp
    have h01 : decide ((0 : Int) ≤ (0 : Int)) = true := by simp
    have hlen : ((strs l).take i).length = i := by simp; omega
    have n1 := named1 (K := K) l i (by omega) h8 (strs l) (strs l) l.length i i 0 K (by omega) (by omega)
    simp only [Int.natCast_zero] at n1
    have w := wrn (show i < 1152921504606846976 by omega)
    simp only [strs_len, hlt, hle, h00, Nat.le_refl, decide_true, strs_get (show i < l.length by omega), ifB_true, when_true', Bool.and_true, Int.toNat_natCast, fits_str, isStr_str, toStr_str, w, Name_ok, onR_some, List.isEmpty_nil, allF_cons, allF_nil, Bool.true_and, List.getD_cons_zero, toF_fz, isBool_bool, toBool_bool, strs_fits, List.drop_zero, hlen, n1, allI]
    cases nmB (l.getD i ByteArray.empty) with
    | false => simp only [Bool.not_false, ifB_true, onL_some, X_level_named_2_0_eq, Bool.false_and]
    | true =>
      simp only [Bool.not_true, ifB_false, Bool.true_and]
      cases anyI (isN l i) i 0 with
      | true => simp only [onL_some, X_level_named_1_0_eq, X_level_named_2_0_eq, Bool.not_true, Bool.false_and]
      | false => simp only [onL_some, X_level_named_1_1_eq, w, ih, Bool.not_false, Bool.true_and]
theorem named_ok (l : List ByteArray) : Rt0 N_level_named [.fz (.sl (strs l))] = some ([.fz (.bool (namedB l))], []) := by
  refine rt_call0 A_level_named rfl rfl 12 ?_
  rw [E_level_named, strs_len]
  unfold namedB
  by_cases h1 : 1 ≤ l.length
  · have g1 : decide ((l.length : Int) < 1) = false := by simp; omega
    by_cases h2 : l.length ≤ 8
    · have g2 : decide ((l.length : Int) > 8) = false := by simp; omega
      have n2 := named2 (K := 12) l h2 (by omega) l.length 0 12 (by omega) (by omega)
      simp only [Int.natCast_zero] at n2
      rw [g1, g2, ifB_false, ifB_false, jump_true, J_level_named_3_0_eq, strs_len, n2]
      simp [h1, h2]
    · have g2 : decide ((l.length : Int) > 8) = true := by simp; omega
      simp [g1, g2, h2]
  · have g1 : decide ((l.length : Int) < 1) = true := by simp; omega
    simp [g1, h1]
def prs (l : List (Int × Int)) : List FV := l.map fun p => .ag [.int .i64 p.1, .int .i64 p.2]
@[simp] theorem prs_len (l : List (Int × Int)) : (prs l).length = l.length := by simp [prs]
theorem prs_get {l : List (Int × Int)} {i : Nat} (h : i < l.length) : (prs l).getD i .nilp = .ag [.int .i64 (l.getD i (0, 0)).1, .int .i64 (l.getD i (0, 0)).2] := by simp [prs, h]
def diag (n : Nat) : Tb := fun x y => decide (x = y) && decide (x < n)
theorem diag_succ (a : Nat) : bT (upd2 (diag a) a a true) = bT (diag (a + 1)) := bT_eq fun x y _ _ => by
  unfold upd2 diag
  by_cases e : x = a ∧ y = a
  · rw [if_pos e, e.1, e.2]; simp
  · rw [if_neg e, Bool.eq_iff_iff]; simp; omega
theorem laid1 {n K : Nat} (hn : n ≤ 8) (x1 : List FV) (y : FV) : ∀ (m a N : Nat), a + m = n → m < N →
    L_level_laid_1_0 Rt0 K true N n x1 n a y (bT (diag a)) = some (.exit 0, X_level_laid_1_0 n x1 y (bT (diag n)))
  | m, b, 0, _, h => by omega
  | 0, a, N + 1, h, _ => by
    rw [L_level_laid_1_0_eq]
    obtain rfl : a = n := by omega
    simp
  | m + 1, a, N + 1, h, hN => by
    have ha : a < 8 := by omega
    have ih := laid1 (K := K) hn x1 y m (a + 1) N (by omega) (by omega)
    rw [L_level_laid_1_0_eq]
    have hlt : decide ((a : Int) < (n : Int)) = true := by simp; omega
    simp only [hlt, ifB_true, lt8 ha, when_true', bT_ag, Int.toNat_natCast, Nat.zero_add, Nat.mul_one, bl64 ha ha, bT_set _ ha ha, diag_succ, Bool.and_true, wrn (show a < 1152921504606846976 by omega), ih]
def inP (n : Nat) (p : Int × Int) : Bool := !(decide (p.1 < 0)) && (!(decide (p.1 ≥ n)) && (!(decide (p.2 < 0)) && !(decide (p.2 ≥ n))))
theorem inP_iff {n : Nat} {p : Int × Int} : inP n p = true ↔ 0 ≤ p.1 ∧ p.1 < n ∧ 0 ≤ p.2 ∧ p.2 < n := by simp [inP]
def layP (f : Tb) (l : List (Int × Int)) : Tb := l.foldl (fun f p => upd2 f p.1.toNat p.2.toNat true) f
theorem layP_iff : ∀ {l : List (Int × Int)} {f : Tb} {x y : Nat}, layP f l x y = true ↔ f x y = true ∨ ∃ p ∈ l, p.1.toNat = x ∧ p.2.toNat = y
  | [], f, x, y => by simp [layP]
  | p :: l, f, x, y => by
    show layP (upd2 f p.1.toNat p.2.toNat true) l x y = true ↔ _
    rw [layP_iff (l := l)]
    unfold upd2
    by_cases e : x = p.1.toNat ∧ y = p.2.toNat
    · rw [if_pos e]
      constructor
      · rintro _; exact .inr ⟨p, List.mem_cons_self .., e.1.symm, e.2.symm⟩
      · rintro _; exact .inl rfl
    · rw [if_neg e]
      constructor
      · rintro (h | ⟨q, hq, h⟩)
        · exact .inl h
        · exact .inr ⟨q, List.mem_cons_of_mem _ hq, h⟩
      · rintro (h | ⟨q, hq, h⟩)
        · exact .inl h
        · rcases List.mem_cons.1 hq with rfl | hq
          · exact absurd ⟨h.1.symm, h.2.symm⟩ e
          · exact .inr ⟨q, hq, h⟩
theorem laid2 {n K : Nat} (hn : n ≤ 8) (l : List (Int × Int)) (h64 : l.length ≤ 64) (y : FV) : ∀ (m i N : Nat) (f : Tb), i + m = l.length → m < N →
    ∃ g, onL (L_level_laid_2_0 Rt0 K true N n (prs l) l.length i y (bT f)) (K_level_laid_2 Rt0 K true) = some ([.fz g, .fz (.bool ((l.drop i).all (inP n)))], []) ∧ FV.fits 64 true g = true ∧ ((l.drop i).all (inP n) = true → g = bT (layP f (l.drop i)))
  | m, b, 0, f, _, h => by omega
  | 0, i, N + 1, f, h, _ => by
    rw [L_level_laid_2_0_eq, List.drop_eq_nil_of_le (by omega)]
    exact ⟨bT f, by simp [show ¬ ((i : Int) < (l.length : Int)) by omega, onL_some, X_level_laid_2_1_eq], by simp, fun _ => rfl⟩
  | m + 1, i, N + 1, f, h, hN => by
    have hi : i < l.length := by omega
    have hd : l.drop i = l.getD i (0, 0) :: l.drop (i + 1) := by
      rw [List.drop_eq_getElem_cons hi]; simp [hi]
    rw [L_level_laid_2_0_eq, hd]
    have hlt : decide ((i : Int) < (l.length : Int)) = true := by simp; omega
    have h00 : decide ((0 : Int) ≤ (i : Int)) = true := by simp
    simp only [prs_len, hlt, h00, prs_get hi, ifB_true, when_true', Bool.and_true, Int.toNat_natCast, fits_ag, isAg_ag, cell_ag, List.length_cons, List.length_nil, List.getD_cons_zero, List.getD_cons_succ, isInt_int, toInt_int, beq_self_eq_true, bT_fits, List.all_cons]
    generalize hp : l.getD i (0, 0) = p
    by_cases q : inP n p = true
    · obtain ⟨q1, q2, q3, q4⟩ := inP_iff.1 q
      have d1 : decide (p.1 < 0) = false := by simp; omega
      have d2 : decide (p.1 ≥ n) = false := by simp; omega
      have d3 : decide (p.2 < 0) = false := by simp; omega
      have d4 : decide (p.2 ≥ n) = false := by simp; omega
      have a1 : p.1.toNat < 8 := by omega
      have a2 : p.2.toNat < 8 := by omega
      have b1 : (decide (0 ≤ p.1) && decide (p.1 < 8)) = true := by simp; omega
      have b2 : (decide (0 ≤ p.2) && decide (p.2 < 8)) = true := by simp; omega
      obtain ⟨g, h1, h2, h3⟩ := laid2 (K := K) hn l h64 y m (i + 1) N (upd2 f p.1.toNat p.2.toNat true) (by omega) (by omega)
      refine ⟨g, ?_, h2, ?_⟩
      · simp only [d1, d2, d3, d4, ifB_false, jump_true, J_level_laid_1_0_eq, isAg_ag, cell_ag, List.length_cons, List.length_nil, List.getD_cons_zero, List.getD_cons_succ, isInt_int, toInt_int, beq_self_eq_true, when_true', b1, b2, bT_ag, Bool.and_true, Nat.zero_add, Nat.mul_one, bl64 a1 a2, bT_set f a1 a2, wrn (show i < 1152921504606846976 by omega), h1, q, Bool.true_and]
      · rw [q, Bool.true_and]; exact h3
    · have q : inP n p = false := by simpa using q
      refine ⟨bT f, ?_, by simp, by rw [q]; simp⟩
      rw [q, Bool.false_and]
      by_cases d1 : p.1 < 0
      · simp [d1, onL_some, X_level_laid_2_0_eq]
      · by_cases d2 : p.1 ≥ n
        · simp [d1, d2, onL_some, X_level_laid_2_0_eq]
        · by_cases d3 : p.2 < 0
          · simp [d1, d2, d3, onL_some, X_level_laid_2_0_eq]
          · by_cases d4 : p.2 ≥ n
            · simp [d1, d2, d3, d4, onL_some, X_level_laid_2_0_eq]
            · simp [inP, d1, d2, d3, d4] at q
def laidB (n : Nat) (l : List (Int × Int)) : Bool := decide (l.length ≤ 64) && l.all (inP n)
theorem laid_ok {n : Nat} (hn : n ≤ 8) (l : List (Int × Int)) : ∃ g, Rt0 N_level_laid [.fz (.int .i64 n), .fz (.sl (prs l))] = some ([.fz g, .fz (.bool (laidB n l))], []) ∧ FV.fits 64 true g = true ∧ (laidB n l = true → g = bT (layP (diag n) l)) := by
  by_cases h : l.length ≤ 64
  · have hd : bT zT = bT (diag 0) := bT_eq fun a b _ _ => by simp [zT, diag]
    obtain ⟨g, h1, h2, h3⟩ := laid2 (K := 70) hn l h (bT zT) l.length 0 70 (diag n) (by omega) (by omega)
    simp only [Int.natCast_zero, List.drop_zero] at h1 h3
    have hb : laidB n l = l.all (inP n) := by simp [laidB, h]
    refine ⟨g, ?_, h2, by rw [hb]; exact h3⟩
    refine rt_call0 A_level_laid rfl rfl 70 ?_
    have hg : decide ((l.length : Int) > 64) = false := by simp; omega
    have h0 := laid1 (K := 70) hn (prs l) (bT zT) n 0 70 (by omega) (by omega)
    simp only [Int.natCast_zero] at h0
    rw [← hd] at h0
    rw [E_level_laid, prs_len, hg, ifB_false, z64, h0, onL_some, X_level_laid_1_0_eq, prs_len, h1, hb]
  · have hb : laidB n l = false := by simp [laidB, h]
    refine ⟨bT zT, ?_, by simp, by rw [hb]; simp⟩
    refine rt_call0 A_level_laid rfl rfl 70 ?_
    have hg : decide ((l.length : Int) > 64) = true := by simp; omega
    rw [E_level_laid, prs_len, hg, ifB_true, z64, hb]
end Go.Ab
end
section
namespace Go.Ab
abbrev Ti := Nat → Nat → Int
def updI (f : Ti) (a b : Nat) (v : Int) : Ti := fun x y => if x = a ∧ y = b then v else f x y
def latC (nm : List FV) (f : Tb) (J M : Ti) (b t : Int) (i : Nat) : FV :=
  if i = 0 then .sl nm else if i < 65 then .bool (f ((i - 1) / 8) ((i - 1) % 8)) else if i < 129 then .int .i64 (J ((i - 65) / 8) ((i - 65) % 8)) else
  if i < 193 then .int .i64 (M ((i - 129) / 8) ((i - 129) % 8)) else if i = 193 then .int .i64 b else .int .i64 t
def latE (nm : List FV) (f : Tb) (J M : Ti) (b t : Int) : FV := .ag ((List.range 195).map (latC nm f J M b t))
section
variable (nm : List FV) (f : Tb) (J M : Ti) (b t : Int)
@[simp] theorem latE_ag : FV.isAg 195 (latE nm f J M b t) = true := by simp [latE]
theorem latE_cell {i : Nat} (h : i < 195) : FV.cell (latE nm f J M b t) i = latC nm f J M b t i := by simp [latE, h]
theorem latE_0 : FV.cell (latE nm f J M b t) 0 = .sl nm := by rw [latE_cell _ _ _ _ _ _ (by omega)]; rfl
theorem latE_l {x y : Nat} (hx : x < 8) (hy : y < 8) : FV.cell (latE nm f J M b t) (1 + x * 8 + y) = .bool (f x y) := by
  rw [latE_cell _ _ _ _ _ _ (by omega)]
  unfold latC
  rw [if_neg (by omega), if_pos (by omega), show (1 + x * 8 + y - 1) / 8 = x by omega, show (1 + x * 8 + y - 1) % 8 = y by omega]
theorem latE_J {x y : Nat} (hx : x < 8) (hy : y < 8) : FV.cell (latE nm f J M b t) (65 + x * 8 + y) = .int .i64 (J x y) := by
  rw [latE_cell _ _ _ _ _ _ (by omega)]
  unfold latC
  rw [if_neg (by omega), if_neg (by omega), if_pos (by omega), show (65 + x * 8 + y - 65) / 8 = x by omega, show (65 + x * 8 + y - 65) % 8 = y by omega]
theorem latE_M {x y : Nat} (hx : x < 8) (hy : y < 8) : FV.cell (latE nm f J M b t) (129 + x * 8 + y) = .int .i64 (M x y) := by
  rw [latE_cell _ _ _ _ _ _ (by omega)]
  unfold latC
  rw [if_neg (by omega), if_neg (by omega), if_neg (by omega), if_pos (by omega), show (129 + x * 8 + y - 129) / 8 = x by omega, show (129 + x * 8 + y - 129) % 8 = y by omega]
theorem latE_b : FV.cell (latE nm f J M b t) 193 = .int .i64 b := by rw [latE_cell _ _ _ _ _ _ (by omega)]; rfl
theorem latE_t : FV.cell (latE nm f J M b t) 194 = .int .i64 t := by rw [latE_cell _ _ _ _ _ _ (by omega)]; rfl
theorem latE_leq : FV.ag (List.map (fun j => FV.cell (latE nm f J M b t) (1 + j)) (List.range 64)) = bT f := by
  unfold bT
  congr 1
theorem latE_set {i : Nat} {v : FV} (hi : i < 195) {J' M' : Ti} {b' t' : Int} (h : ∀ j, j < 195 → latC nm f J' M' b' t' j = if i = j then v else latC nm f J M b t j) :
    FV.ag (List.set (FV.toAg (latE nm f J M b t)) i v) = latE nm f J' M' b' t' := by
  unfold latE
  simp only [toAg_ag]
  congr 1
  apply List.ext_getElem (by simp)
  intro j h1 h2
  have hj : j < 195 := by simpa using h2
  rw [List.getElem_set]
  simp only [List.getElem_map, List.getElem_range]
  exact (h j hj).symm
theorem latE_setJ {x y : Nat} (hx : x < 8) (hy : y < 8) (v : Int) : FV.ag (List.set (FV.toAg (latE nm f J M b t)) (65 + x * 8 + y) (.int .i64 v)) = latE nm f (updI J x y v) M b t := by
  refine latE_set nm f J M b t (by omega) fun j hj => ?_
  unfold latC
  by_cases h0 : j = 0
  · rw [if_pos h0, if_pos h0, if_neg (by omega)]
  rw [if_neg h0, if_neg h0]
  by_cases h1 : j < 65
  · rw [if_pos h1, if_pos h1, if_neg (by omega)]
  rw [if_neg h1, if_neg h1]
  by_cases h2 : j < 129
  · rw [if_pos h2, if_pos h2]
    unfold updI
    by_cases e : 65 + x * 8 + y = j
    · rw [if_pos e, if_pos (by omega)]
    · rw [if_neg e, if_neg (by omega)]
  rw [if_neg h2, if_neg h2, if_neg (show ¬ 65 + x * 8 + y = j by omega)]
theorem latE_setM {x y : Nat} (hx : x < 8) (hy : y < 8) (v : Int) : FV.ag (List.set (FV.toAg (latE nm f J M b t)) (129 + x * 8 + y) (.int .i64 v)) = latE nm f J (updI M x y v) b t := by
  refine latE_set nm f J M b t (by omega) fun j hj => ?_
  unfold latC
  by_cases h0 : j = 0
  · rw [if_pos h0, if_pos h0, if_neg (by omega)]
  rw [if_neg h0, if_neg h0]
  by_cases h1 : j < 65
  · rw [if_pos h1, if_pos h1, if_neg (by omega)]
  rw [if_neg h1, if_neg h1]
  by_cases h2 : j < 129
  · rw [if_pos h2, if_pos h2, if_neg (by omega)]
  rw [if_neg h2, if_neg h2]
  by_cases h3 : j < 193
  · rw [if_pos h3, if_pos h3]
    unfold updI
    by_cases e : 129 + x * 8 + y = j
    · rw [if_pos e, if_pos (by omega)]
    · rw [if_neg e, if_neg (by omega)]
  rw [if_neg h3, if_neg h3, if_neg (show ¬ 129 + x * 8 + y = j by omega)]
theorem latE_setb (v : Int) : FV.ag (List.set (FV.toAg (latE nm f J M b t)) 193 (.int .i64 v)) = latE nm f J M v t := by
  refine latE_set nm f J M b t (by omega) fun j hj => ?_
  unfold latC
  by_cases h0 : j = 193
  · subst h0; rfl
  · rw [if_neg (show ¬ 193 = j by omega), if_neg h0, if_neg h0]
theorem latE_sett (v : Int) : FV.ag (List.set (FV.toAg (latE nm f J M b t)) 194 (.int .i64 v)) = latE nm f J M b v := by
  refine latE_set nm f J M b t (by omega) fun j hj => ?_
  unfold latC
  by_cases h0 : j = 194
  · subst h0; rfl
  · rw [if_neg (show ¬ 194 = j by omega)]
    by_cases h1 : j = 193
    · subst h1; rfl
    · rw [if_pos (show j < 193 by omega), if_pos (show j < 193 by omega)]
end
def trn (f : Tb) : Tb := fun a b => f b a
def JT (f : Tb) (n a b : Nat) : Ti := fun x y => if (x < a ∧ y < n) ∨ (x = a ∧ y < b) then ovr f n x y n 0 else 0
theorem JT_upd (f : Tb) (n a b : Nat) : updI (JT f n a b) a b (ovr f n a b n 0) = JT f n a (b + 1) := by
  funext x y
  unfold updI JT
  by_cases e : x = a ∧ y = b
  · rw [if_pos e, if_pos (by omega), e.1, e.2]
  · rw [if_neg e]
    by_cases h : (x < a ∧ y < n) ∨ (x = a ∧ y < b)
    · rw [if_pos h, if_pos (by omega)]
    · rw [if_neg h, if_neg (by omega)]
theorem JT_next (f : Tb) (n a : Nat) : JT f n a n = JT f n (a + 1) 0 := by
  funext x y
  unfold JT
  by_cases h : (x < a ∧ y < n) ∨ (x = a ∧ y < n)
  · rw [if_pos h, if_pos (by omega)]
  · rw [if_neg h, if_neg (by omega)]
def okAB (f : Tb) (n a b : Nat) : Bool := !decide (ovr f n a b n 0 < 0) && !decide (ovr (trn f) n a b n 0 < 0)
theorem ovr_range (f : Tb) (n a b : Nat) : ∀ m c, c + m = n → ovr f n a b m c = -1 ∨ ((0 : Int) ≤ ovr f n a b m c ∧ ovr f n a b m c < n)
  | 0, c, _ => .inl rfl
  | m + 1, c, h => by
    simp only [ovr]
    split
    · right; constructor <;> omega
    · exact ovr_range f n a b m (c + 1) (by omega)
theorem lt195J {x y : Nat} (hx : x < 8) (hy : y < 8) : Nat.blt (65 + x * 8 + y) 195 = true := by rw [Nat.blt_eq]; omega
theorem lt195M {x y : Nat} (hx : x < 8) (hy : y < 8) : Nat.blt (129 + x * 8 + y) 195 = true := by rw [Nat.blt_eq]; omega
theorem fill1 {a n K : Nat} (ha : a < 8) (hn : n ≤ 8) (nm : List FV) (f : Tb) (x14 x15 : Int) : ∀ (m b N : Nat), b + m = n → m < N →
    ∃ e', L_level_Lattice_fill_1_0 Rt0 K true N n a x14 x15 n b (latE nm f (JT f n a b) (JT (trn f) n a b) 0 0) (bT (trn f)) =
      some (match allI (okAB f n a) m b with
        | true => (.exit 2, X_level_Lattice_fill_1_1 n x14 x15 (latE nm f (JT f n a n) (JT (trn f) n a n) 0 0) (bT (trn f)))
        | false => (.ret, X_level_Lattice_fill_1_0 n false x14 x15 e' (bT (trn f))))
  | m, b, 0, _, h => by omega
  | 0, b, N + 1, h, _ => by
    rw [L_level_Lattice_fill_1_0_eq]
    obtain rfl : b = n := by omega
    exact ⟨.nilp, by simp [allI]⟩
  | m + 1, b, N + 1, h, hN => by
    have hb : b < 8 := by omega
    obtain ⟨e', ih⟩ := fill1 (K := K) ha hn nm f x14 x15 m (b + 1) N (by omega) (by omega)
    have hlt : decide ((b : Int) < (n : Int)) = true := by simp; omega
    have h00 : decide ((0 : Int) ≤ (b : Int)) = true := by simp
    refine ⟨if okAB f n a b = true then e' else (latE nm f (JT f n a (b + 1)) (JT (trn f) n a (b + 1)) 0 0), ?_⟩
    rw [L_level_Lattice_fill_1_0_eq]
    have o1 := over_ok ha hb hn f
    have o2 := over_ok ha hb hn (trn f)
    have g1 : updI (JT f n a b) a b (ovr f n a b n 0) a b = ovr f n a b n 0 := by simp [updI]
    simp only [hlt, ifB_true, latE_ag, when_true', latE_leq, o1, o2, onR_some, List.isEmpty_nil, allF_cons, allF_nil, Bool.and_true, Bool.true_and, List.getD_cons_zero, toF_fz, isInt_int, toInt_int, lt8 ha, lt8 hb, Int.toNat_natCast, Nat.mul_one, lt195J ha hb, lt195M ha hb, latE_setJ _ _ _ _ _ _ ha hb, latE_setM _ _ _ _ _ _ ha hb, latE_J _ _ _ _ _ _ ha hb, latE_M _ _ _ _ _ _ ha hb, JT_upd, wrn (show b < 1152921504606846976 by omega), ih, allI]
    have q1 : JT f n a (b + 1) a b = ovr f n a b n 0 := by simp [JT]
    have q2 : JT (trn f) n a (b + 1) a b = ovr (trn f) n a b n 0 := by simp [JT]
    rw [q1, q2]
    unfold okAB
    cases d1 : decide (ovr f n a b n 0 < 0) <;> cases d2 : decide (ovr (trn f) n a b n 0 < 0) <;> simp only [ifB_true, ifB_false, Bool.not_true, Bool.not_false, Bool.true_and, Bool.false_and, Bool.and_false, Bool.and_true, if_true, Bool.false_eq_true, if_false]
def botF (M : Ti) : Nat → Nat → Nat → Nat
  | 0, _, b => b
  | m + 1, a, b => botF M m (a + 1) (M b a).toNat
theorem fill3 {n K : Nat} (hn : n ≤ 8) (nm : List FV) (f : Tb) (J M : Ti) (hJ : ∀ a b, a < n → b < n → 0 ≤ J a b ∧ J a b < n) (hM : ∀ a b, a < n → b < n → 0 ≤ M a b ∧ M a b < n) : ∀ (m a N b t : Nat), b < n → t < n → a + m = n → m < N →
    L_level_Lattice_fill_3_0 Rt0 K true N n a (latE nm f J M b t) = some (.exit 4, X_level_Lattice_fill_3_0 (latE nm f J M (botF M m a b) (botF J m a t)))
  | m, b, 0, _, _, _, _, _, h => by omega
  | 0, a, N + 1, b, t, hb, ht, h, _ => by
    rw [L_level_Lattice_fill_3_0_eq]
    obtain rfl : a = n := by omega
    simp [botF]
  | m + 1, a, N + 1, b, t, hb, ht, h, hN => by
    have ha : a < 8 := by omega
    have hb8 : b < 8 := by omega
    have ht8 : t < 8 := by omega
    obtain ⟨m1, m2⟩ := hM b a hb (by omega)
    obtain ⟨j1, j2⟩ := hJ t a ht (by omega)
    have ih := fill3 (K := K) hn nm f J M hJ hM m (a + 1) N (M b a).toNat (J t a).toNat (by omega) (by omega) (by omega) (by omega)
    rw [Int.toNat_of_nonneg m1, Int.toNat_of_nonneg j1] at ih
    have hlt : decide ((a : Int) < (n : Int)) = true := by simp; omega
    rw [L_level_Lattice_fill_3_0_eq]
    simp only [hlt, ifB_true, latE_ag, when_true', latE_b, latE_t, isInt_int, toInt_int, lt8 ha, lt8 hb8, lt8 ht8, Int.toNat_natCast, Nat.mul_one, lt195J ht8 ha, lt195M hb8 ha, latE_M _ _ _ _ _ _ hb8 ha, latE_J _ _ _ _ _ _ ht8 ha, latE_setb, latE_sett, Bool.and_true, wrn (show a < 1152921504606846976 by omega), ih, botF]
def fillB (f : Tb) (n : Nat) : Bool := allI (fun a => allI (okAB f n a) n 0) n 0
theorem fillB_iff {f : Tb} {n : Nat} : fillB f n = true ↔ ∀ a b, a < n → b < n → 0 ≤ ovr f n a b n 0 ∧ 0 ≤ ovr (trn f) n a b n 0 := by
  unfold fillB
  rw [allI_iff]
  constructor
  · intro h a b ha hb
    have h1 := h a (by omega) (by omega)
    rw [allI_iff] at h1
    have h2 := h1 b (by omega) (by omega)
    simp [okAB] at h2
    omega
  · intro h a _ ha
    rw [allI_iff]
    intro b _ hb
    have := h a b (by omega) (by omega)
    simp [okAB]; omega
theorem fill2 {n K : Nat} (hn : n ≤ 8) (hK : 9 < K) (h1 : 1 ≤ n) (nm : List FV) (f : Tb) : ∀ (m a N : Nat), a + m = n → (∀ x y, x < a → y < n → okAB f n x y = true) → m < N →
    ∃ e', onL (L_level_Lattice_fill_2_0 Rt0 K true N n n a (latE nm f (JT f n a 0) (JT (trn f) n a 0) 0 0) (bT (trn f))) (K_level_Lattice_fill_2 Rt0 K true) =
      some ([.fz (.bool (allI (fun a => allI (okAB f n a) n 0) m a))], [.fz e']) ∧ (allI (fun a => allI (okAB f n a) n 0) m a = true → e' = latE nm f (JT f n n 0) (JT (trn f) n n 0) (botF (JT (trn f) n n 0) n 0 0) (botF (JT f n n 0) n 0 0))
  | m, b, 0, _, _, h => by omega
  | 0, a, N + 1, h, hok, _ => by
    obtain rfl : a = n := by omega
    have hR : ∀ g : Tb, (∀ x y, x < a → y < a → 0 ≤ ovr g a x y a 0) → ∀ x y, x < a → y < a → 0 ≤ JT g a a 0 x y ∧ JT g a a 0 x y < a := fun g hg x y hx hy => by
      have : JT g a a 0 x y = ovr g a x y a 0 := by simp [JT, hx, hy]
      rw [this]
      have := hg x y hx hy
      rcases ovr_range g a x y a 0 (by omega) with h | h <;> omega
    have f3 := fill3 (K := K) hn nm f (JT f a a 0) (JT (trn f) a a 0) (hR f fun x y hx hy => by have := hok x y hx hy; simp [okAB] at this; omega) (hR (trn f) fun x y hx hy => by have := hok x y hx hy; simp [okAB] at this; omega) a 0 K 0 0 (by omega) (by omega) (by omega) (by omega)
    simp only [Int.natCast_zero] at f3
    refine ⟨_, ?_, fun _ => rfl⟩
    rw [L_level_Lattice_fill_2_0_eq]
    simp only [show decide ((a : Int) < (a : Int)) = false by simp, ifB_false, onL_some, X_level_Lattice_fill_2_0_eq, f3, X_level_Lattice_fill_3_0_eq, allI]
  | m + 1, a, N + 1, h, hok, hN => by
    have ha : a < 8 := by omega
    have hlt : decide ((a : Int) < (n : Int)) = true := by simp; omega
    obtain ⟨e1, f1⟩ := fill1 (K := K) ha hn nm f n a n 0 K (by omega) (by omega)
    simp only [Int.natCast_zero] at f1
    rw [L_level_Lattice_fill_2_0_eq]
    simp only [hlt, ifB_true, f1, allI]
    cases q : allI (okAB f n a) n 0 with
    | false =>
      refine ⟨e1, ?_, by simp⟩
      simp only [onL_some, X_level_Lattice_fill_1_0_eq, X_level_Lattice_fill_2_1_eq, Bool.false_and]
    | true =>
      obtain ⟨e', h2, h3⟩ := fill2 (K := K) hn hK h1 nm f m (a + 1) N (by omega) (fun x y hx hy => by
        by_cases e : x = a
        · subst e; exact allI_iff.1 q y (by omega) (by omega)
        · exact hok x y (by omega) hy) (by omega)
      refine ⟨e', ?_, by simpa using h3⟩
      rw [JT_next, JT_next]
      simp only [onL_some, X_level_Lattice_fill_1_1_eq, wrn (show a < 1152921504606846976 by omega), h2, Bool.true_and]
theorem fill_ok {n : Nat} (hn : n ≤ 8) (h1 : 1 ≤ n) (nm : List FV) (f : Tb) : ∃ e', Rt0 N_level_Lattice_fill [.pv 195 true (.fz (latE nm f (fun _ _ => 0) (fun _ _ => 0) 0 0)), .fz (.int .i64 n)] = some ([.fz (.bool (fillB f n))], [.fz e']) ∧
    (fillB f n = true → e' = latE nm f (JT f n n 0) (JT (trn f) n n 0) (botF (JT (trn f) n n 0) n 0 0) (botF (JT f n n 0) n 0 0)) := by
  have h0 : ∀ g : Tb, JT g n 0 0 = fun _ _ => 0 := fun g => by funext x y; simp [JT]
  obtain ⟨e', h2, h3⟩ := fill2 (K := 12) hn (by omega) h1 nm f n 0 12 (by omega) (fun x y hx => by omega) (by omega)
  rw [h0, h0] at h2
  simp only [Int.natCast_zero] at h2
  refine ⟨e', ?_, h3⟩
  refine rt_call0 A_level_Lattice_fill rfl rfl 12 ?_
  have ht : Rt0 N_level_turned [.fz (bT f)] = some ([.fz (bT (trn f))], []) := turned_ok f
  rw [E_level_Lattice_fill, latE_ag, when_true', latE_leq, ht]
  simp only [onR_some, List.isEmpty_nil, allF_cons, allF_nil, Bool.and_true, when_true', List.getD_cons_zero, toF_fz, bT_fits, h2]
  rfl
end Go.Ab
end
section
namespace Go.Ab
def polE (names : List ByteArray) (pairs : List (Int × Int)) (pp : List FV) : FV := .ag [.sl (strs names), .sl (prs pairs), .sl pp]
def latR (names : List ByteArray) (g : Tb) : FV := latE (strs names) g (JT g names.length names.length 0) (JT (trn g) names.length names.length 0) (botF (JT (trn g) names.length names.length 0) names.length 0 0) (botF (JT g names.length names.length 0) names.length 0 0)
def newC (names : List ByteArray) (pairs : List (Int × Int)) (g : Tb) : Int :=
  match namedB names with
  | false => 10
  | true => match laidB names.length pairs with
    | false => 2
    | true => match tws2 g names.length 0 with
      | true => 9
      | false => match fillB g names.length with
        | false => 9
        | true => 0
theorem ag64 (g : Tb) : FV.ag [FV.cell (bT g) 0, FV.cell (bT g) 1, FV.cell (bT g) 2, FV.cell (bT g) 3, FV.cell (bT g) 4, FV.cell (bT g) 5, FV.cell (bT g) 6, FV.cell (bT g) 7, FV.cell (bT g) 8, FV.cell (bT g) 9, FV.cell (bT g) 10, FV.cell (bT g) 11, FV.cell (bT g) 12, FV.cell (bT g) 13, FV.cell (bT g) 14, FV.cell (bT g) 15, FV.cell (bT g) 16, FV.cell (bT g) 17, FV.cell (bT g) 18, FV.cell (bT g) 19, FV.cell (bT g) 20, FV.cell (bT g) 21, FV.cell (bT g) 22, FV.cell (bT g) 23, FV.cell (bT g) 24, FV.cell (bT g) 25, FV.cell (bT g) 26, FV.cell (bT g) 27, FV.cell (bT g) 28, FV.cell (bT g) 29, FV.cell (bT g) 30, FV.cell (bT g) 31, FV.cell (bT g) 32, FV.cell (bT g) 33, FV.cell (bT g) 34, FV.cell (bT g) 35, FV.cell (bT g) 36, FV.cell (bT g) 37, FV.cell (bT g) 38, FV.cell (bT g) 39, FV.cell (bT g) 40, FV.cell (bT g) 41, FV.cell (bT g) 42, FV.cell (bT g) 43, FV.cell (bT g) 44, FV.cell (bT g) 45, FV.cell (bT g) 46, FV.cell (bT g) 47, FV.cell (bT g) 48, FV.cell (bT g) 49, FV.cell (bT g) 50, FV.cell (bT g) 51, FV.cell (bT g) 52, FV.cell (bT g) 53, FV.cell (bT g) 54, FV.cell (bT g) 55, FV.cell (bT g) 56, FV.cell (bT g) 57, FV.cell (bT g) 58, FV.cell (bT g) 59, FV.cell (bT g) 60, FV.cell (bT g) 61, FV.cell (bT g) 62, FV.cell (bT g) 63] = bT g := by kernel_rfl
theorem lat0 (nm : List FV) (g : Tb) : FV.ag [.sl nm, FV.cell (bT g) 0, FV.cell (bT g) 1, FV.cell (bT g) 2, FV.cell (bT g) 3, FV.cell (bT g) 4, FV.cell (bT g) 5, FV.cell (bT g) 6, FV.cell (bT g) 7, FV.cell (bT g) 8, FV.cell (bT g) 9, FV.cell (bT g) 10, FV.cell (bT g) 11, FV.cell (bT g) 12, FV.cell (bT g) 13, FV.cell (bT g) 14, FV.cell (bT g) 15, FV.cell (bT g) 16, FV.cell (bT g) 17, FV.cell (bT g) 18, FV.cell (bT g) 19, FV.cell (bT g) 20, FV.cell (bT g) 21, FV.cell (bT g) 22, FV.cell (bT g) 23, FV.cell (bT g) 24, FV.cell (bT g) 25, FV.cell (bT g) 26, FV.cell (bT g) 27, FV.cell (bT g) 28, FV.cell (bT g) 29, FV.cell (bT g) 30, FV.cell (bT g) 31, FV.cell (bT g) 32, FV.cell (bT g) 33, FV.cell (bT g) 34, FV.cell (bT g) 35, FV.cell (bT g) 36, FV.cell (bT g) 37, FV.cell (bT g) 38, FV.cell (bT g) 39, FV.cell (bT g) 40, FV.cell (bT g) 41, FV.cell (bT g) 42, FV.cell (bT g) 43, FV.cell (bT g) 44, FV.cell (bT g) 45, FV.cell (bT g) 46, FV.cell (bT g) 47, FV.cell (bT g) 48, FV.cell (bT g) 49, FV.cell (bT g) 50, FV.cell (bT g) 51, FV.cell (bT g) 52, FV.cell (bT g) 53, FV.cell (bT g) 54, FV.cell (bT g) 55, FV.cell (bT g) 56, FV.cell (bT g) 57, FV.cell (bT g) 58, FV.cell (bT g) 59, FV.cell (bT g) 60, FV.cell (bT g) 61, FV.cell (bT g) 62, FV.cell (bT g) 63, .int .i64 0, .int .i64 0, .int .i64 0, .int .i64 0, .int .i64 0, .int .i64 0, .int .i64 0, .int .i64 0, .int .i64 0, .int .i64 0, .int .i64 0, .int .i64 0, .int .i64 0, .int .i64 0, .int .i64 0, .int .i64 0, .int .i64 0, .int .i64 0, .int .i64 0, .int .i64 0, .int .i64 0, .int .i64 0, .int .i64 0, .int .i64 0, .int .i64 0, .int .i64 0, .int .i64 0, .int .i64 0, .int .i64 0, .int .i64 0, .int .i64 0, .int .i64 0, .int .i64 0, .int .i64 0, .int .i64 0, .int .i64 0, .int .i64 0, .int .i64 0, .int .i64 0, .int .i64 0, .int .i64 0, .int .i64 0, .int .i64 0, .int .i64 0, .int .i64 0, .int .i64 0, .int .i64 0, .int .i64 0, .int .i64 0, .int .i64 0, .int .i64 0, .int .i64 0, .int .i64 0, .int .i64 0, .int .i64 0, .int .i64 0, .int .i64 0, .int .i64 0, .int .i64 0, .int .i64 0, .int .i64 0, .int .i64 0, .int .i64 0, .int .i64 0, .int .i64 0, .int .i64 0, .int .i64 0, .int .i64 0, .int .i64 0, .int .i64 0, .int .i64 0, .int .i64 0, .int .i64 0, .int .i64 0, .int .i64 0, .int .i64 0, .int .i64 0, .int .i64 0, .int .i64 0, .int .i64 0, .int .i64 0, .int .i64 0, .int .i64 0, .int .i64 0, .int .i64 0, .int .i64 0, .int .i64 0, .int .i64 0, .int .i64 0, .int .i64 0, .int .i64 0, .int .i64 0, .int .i64 0, .int .i64 0, .int .i64 0, .int .i64 0, .int .i64 0, .int .i64 0, .int .i64 0, .int .i64 0, .int .i64 0, .int .i64 0, .int .i64 0, .int .i64 0, .int .i64 0, .int .i64 0, .int .i64 0, .int .i64 0, .int .i64 0, .int .i64 0, .int .i64 0, .int .i64 0, .int .i64 0, .int .i64 0, .int .i64 0, .int .i64 0, .int .i64 0, .int .i64 0, .int .i64 0, .int .i64 0, .int .i64 0, .int .i64 0, .int .i64 0, .int .i64 0, .int .i64 0, .int .i64 0, .int .i64 0, .int .i64 0, .int .i64 0, .int .i64 0] = latE nm g (fun _ _ => 0) (fun _ _ => 0) 0 0 := by kernel_rfl
theorem named_len {l : List ByteArray} (h : namedB l = true) : 1 ≤ l.length ∧ l.length ≤ 8 := by
  simp only [namedB, Bool.and_eq_true, decide_eq_true_eq] at h
  exact ⟨h.1, h.2.1⟩
theorem New_ok (names : List ByteArray) (pairs : List (Int × Int)) (pp : List FV) : ∃ g, (namedB names = true → Clo names.length (layP (diag names.length) pairs) g) ∧
    Rt0 N_level_New [.fz (polE names pairs pp)] = some (match newC names pairs g with
      | 0 => ([.fz (.pt 195 true (latR names g) 0), .fz (.int .i64 0)], [])
      | c => ([.fz .nilp, .fz (.int .i64 c)], [])) := by
  have hE := fun R k w => E_level_New R k w (strs names) (prs pairs) pp
  cases q0 : namedB names with
  | false =>
    refine ⟨zT, by simp, ?_⟩
    refine rt_call0 A_level_New rfl rfl 0 ?_
    unfold polE
    rw [hE, named_ok, q0]
    simp [onR_some, newC, q0]
  | true =>
    obtain ⟨n1, n8⟩ := named_len q0
    obtain ⟨g, hg, hc⟩ := closed_ok n8 (layP (diag names.length) pairs)
    refine ⟨g, fun _ => hg, ?_⟩
    refine rt_call0 A_level_New rfl rfl 0 ?_
    unfold polE
    obtain ⟨t, h1, h2, h3⟩ := laid_ok n8 pairs
    rw [hE, named_ok, q0]
    simp only [onR_some, List.isEmpty_nil, allF_cons, allF_nil, Bool.and_true, when_true', List.getD_cons_zero, List.getD_cons_succ, toF_fz, isBool_bool, toBool_bool, Bool.not_true, ifB_false, strs_len, h1, h2]
    cases q1 : laidB names.length pairs with
    | false => simp only [Bool.not_false, ifB_true, newC, q0, q1]
    | true =>
      obtain rfl := h3 q1
      have hr : (decide (((0 : Nat) + names.length) * 16 ≤ roomy) && decide ((0 : Nat) + names.length ≤ roomy)) = true := by
        have : roomy = 140737488355328 := rfl
        simp; omega
      have tw := twisted_ok n8 g
      obtain ⟨e', f1, f2⟩ := fill_ok n8 n1 (strs names) g
      simp only [Bool.not_true, ifB_false, strs_fits, when_true', hr, hc, onR_some, List.isEmpty_nil, allF_cons, allF_nil, Bool.and_true, List.getD_cons_zero, toF_fz, bT_ag, ag64, lat0, tw, isBool_bool, toBool_bool]
      cases q2 : tws2 g names.length 0 with
      | true => simp only [ifB_true, newC, q0, q1, q2]
      | false =>
        simp only [ifB_false, f1, onR_some, List.length_cons, List.length_nil, List.all_cons, List.all_nil, lisFz_fz, Bool.and_true, beq_self_eq_true, when_true', List.getD_cons_zero, isF_fz, toF_fz, isBool_bool, toBool_bool, ltoFz_fz]
        cases q3 : fillB g names.length with
        | false => simp only [Bool.not_false, ifB_true, newC, q0, q1, q2, q3]
        | true =>
          rw [f2 q3]
          simp only [Bool.not_true, ifB_false, newC, q0, q1, q2, q3, latR]
theorem tws1_iff {f : Tb} {a : Nat} : ∀ {m b : Nat}, tws1 f a m b = true ↔ ∃ c, b ≤ c ∧ c < b + m ∧ f a c = true ∧ f c a = true
  | 0, b => by simp [tws1]; intro c h1 h2; omega
  | m + 1, b => by
    simp only [tws1, Bool.or_eq_true, Bool.and_eq_true, tws1_iff (m := m)]
    constructor
    · rintro (h | ⟨c, h1, h2, h3⟩)
      · exact ⟨b, by omega, by omega, h⟩
      · exact ⟨c, by omega, by omega, h3⟩
    · rintro ⟨c, h1, h2, h3⟩
      by_cases e : b = c
      · subst e; exact .inl h3
      · exact .inr ⟨c, by omega, by omega, h3⟩
theorem tws2_iff {f : Tb} : ∀ {m a : Nat}, tws2 f m a = true ↔ ∃ b, a ≤ b ∧ b < a + m ∧ tws1 f b b 0 = true
  | 0, b => by simp [tws2]; intro c h1 h2; omega
  | m + 1, b => by
    simp only [tws2, Bool.or_eq_true, tws2_iff (m := m)]
    constructor
    · rintro (h | ⟨c, h1, h2, h3⟩)
      · exact ⟨b, by omega, by omega, h⟩
      · exact ⟨c, by omega, by omega, h3⟩
    · rintro ⟨c, h1, h2, h3⟩
      by_cases e : b = c
      · subst e; exact .inl h3
      · exact .inr ⟨c, by omega, by omega, h3⟩
theorem tws_anti {f : Tb} {n : Nat} : tws2 f n 0 = false ↔ ∀ a b, a < n → b < n → f a b = true → f b a = true → a = b := by
  rw [Bool.eq_false_iff]
  constructor
  · intro h a b ha hb x y
    apply Classical.byContradiction
    intro e
    apply h
    rw [tws2_iff]
    rcases Nat.lt_or_gt_of_ne e with q | q
    · exact ⟨b, by omega, by omega, tws1_iff.2 ⟨a, by omega, by omega, y, x⟩⟩
    · exact ⟨a, by omega, by omega, tws1_iff.2 ⟨b, by omega, by omega, x, y⟩⟩
  · intro h h2
    obtain ⟨b, _, hb, h3⟩ := tws2_iff.1 h2
    obtain ⟨c, _, hc, x, y⟩ := tws1_iff.1 h3
    have := h b c (by omega) (by omega) x y
    omega
theorem lub_iff {f : Tb} {n a b c : Nat} : lub f n a b c = true ↔ ∀ d, d < n → f a d = true → f b d = true → f c d = true := by
  simp only [lub, List.all_eq_true, List.mem_range]
  constructor
  · intro h d hd x y
    have := h d hd
    simpa [x, y] using this
  · intro h d hd
    cases q1 : f a d with
    | false => simp
    | true =>
      cases q2 : f b d with
      | false => simp
      | true => simp [h d hd q1 q2]
def IsLub (f : Tb) (n a b c : Nat) : Prop := c < n ∧ f a c = true ∧ f b c = true ∧ ∀ d, d < n → f a d = true → f b d = true → f c d = true
theorem ovr_spec {f : Tb} {n a b : Nat} : ∀ {m c : Nat}, c + m = n → (∃ r : Nat, ovr f n a b m c = r ∧ IsLub f n a b r) ∨ (ovr f n a b m c = -1 ∧ ∀ r, c ≤ r → ¬ IsLub f n a b r)
  | 0, c, h => .inr ⟨rfl, fun r hr q => by have := q.1; omega⟩
  | m + 1, c, h => by
    simp only [ovr]
    by_cases q : (f a c && (f b c && lub f n a b c)) = true
    · rw [if_pos q]
      simp only [Bool.and_eq_true, lub_iff] at q
      exact .inl ⟨c, rfl, by omega, q.1, q.2.1, q.2.2⟩
    · rw [if_neg q]
      rcases ovr_spec (f := f) (n := n) (a := a) (b := b) (m := m) (c := c + 1) (by omega) with h1 | ⟨h1, h2⟩
      · exact .inl h1
      · refine .inr ⟨h1, fun r hr hl => ?_⟩
        by_cases e : c = r
        · subst e
          apply q
          simp only [Bool.and_eq_true, lub_iff]
          exact ⟨hl.2.1, hl.2.2.1, hl.2.2.2⟩
        · exact h2 r (by omega) hl
theorem botF_spec {n : Nat} (hn : 1 ≤ n) {R : Nat → Nat → Prop} (rf : ∀ a, a < n → R a a) (tr : ∀ a b c, a < n → b < n → c < n → R a b → R b c → R a c) {M : Ti} (hM : ∀ a b, a < n → b < n → ∃ r : Nat, M a b = r ∧ r < n ∧ R r a ∧ R r b) :
    ∀ (m a b : Nat), a + m = n → b < n → botF M m a b < n ∧ R (botF M m a b) b ∧ ∀ j, a ≤ j → j < n → R (botF M m a b) j
  | 0, a, b, h, hb => ⟨hb, rf b hb, fun j h1 h2 => by omega⟩
  | m + 1, a, b, h, hb => by
    obtain ⟨r, h1, h2, h3, h4⟩ := hM b a hb (by omega)
    have hr : (M b a).toNat = r := by rw [h1]; simp
    simp only [botF, hr]
    obtain ⟨q1, q2, q3⟩ := botF_spec hn rf tr hM m (a + 1) r (by omega) h2
    refine ⟨q1, tr _ _ _ q1 h2 hb q2 h3, fun j hj hjn => ?_⟩
    by_cases e : a = j
    · subst e; exact tr _ _ _ q1 h2 hjn q2 h4
    · exact q3 j (by omega) hjn
def ltR (n : Nat) (g : Tb) : Lt where
  n := n
  leq := g
  join a b := (ovr g n a b n 0).toNat
  meet a b := (ovr (trn g) n a b n 0).toNat
  bot := botF (JT (trn g) n n 0) n 0 0
  top := botF (JT g n n 0) n 0 0
theorem JT_full {f : Tb} {n a b : Nat} (ha : a < n) (hb : b < n) : JT f n n 0 a b = ovr f n a b n 0 := by simp [JT, ha, hb]
structure Nice (n : Nat) (g : Tb) : Prop where
  n1 : 1 ≤ n
  n8 : n ≤ 8
  rf : ∀ a, a < n → g a a = true
  tr : Tr n g
  anti : ∀ a b, a < n → b < n → g a b = true → g b a = true → a = b
  j : ∀ a b, a < n → b < n → ∃ r : Nat, ovr g n a b n 0 = r ∧ IsLub g n a b r
  m : ∀ a b, a < n → b < n → ∃ r : Nat, ovr (trn g) n a b n 0 = r ∧ IsLub (trn g) n a b r
theorem Nice.ok {n : Nat} {g : Tb} (N : Nice n g) : (ltR n g).Ok := by
  have J := fun a b ha hb => N.j a b ha hb
  have M := fun a b ha hb => N.m a b ha hb
  obtain ⟨b1, _, b3⟩ := botF_spec (R := fun a b => g a b = true) N.n1 N.rf (fun a b c ha hb hc => N.tr a b c ha hb hc) (M := JT (trn g) n n 0) (fun a b ha hb => by
    obtain ⟨r, h1, h2⟩ := M a b ha hb
    exact ⟨r, by rw [JT_full ha hb]; exact h1, h2.1, h2.2.1, h2.2.2.1⟩) n 0 0 (by omega) (by have := N.n1; omega)
  obtain ⟨t1, _, t3⟩ := botF_spec (R := fun a b => g b a = true) N.n1 N.rf (fun a b c ha hb hc x y => N.tr c b a hc hb ha y x) (M := JT g n n 0) (fun a b ha hb => by
    obtain ⟨r, h1, h2⟩ := J a b ha hb
    exact ⟨r, by rw [JT_full ha hb]; exact h1, h2.1, h2.2.1, h2.2.2.1⟩) n 0 0 (by omega) (by have := N.n1; omega)
  have JJ : ∀ a b, a < n → b < n → IsLub g n a b ((ltR n g).join a b) := fun a b ha hb => by
    obtain ⟨r, h1, h2⟩ := J a b ha hb
    have : (ltR n g).join a b = r := by show (ovr g n a b n 0).toNat = r; rw [h1]; simp
    rw [this]; exact h2
  have MM : ∀ a b, a < n → b < n → IsLub (trn g) n a b ((ltR n g).meet a b) := fun a b ha hb => by
    obtain ⟨r, h1, h2⟩ := M a b ha hb
    have : (ltR n g).meet a b = r := by show (ovr (trn g) n a b n 0).toNat = r; rw [h1]; simp
    rw [this]; exact h2
  exact ⟨N.n1, N.n8, b1, t1, fun a ha => b3 a (by omega) ha, fun a ha => t3 a (by omega) ha, N.rf, N.anti, N.tr, fun a b ha hb => (JJ a b ha hb).1, fun a b ha hb => (JJ a b ha hb).2.1, fun a b ha hb => (JJ a b ha hb).2.2.1,
    fun a b c ha hb hc x y => (JJ a b ha hb).2.2.2 c hc x y, fun a b ha hb => (MM a b ha hb).1, fun a b ha hb => (MM a b ha hb).2.1, fun a b ha hb => (MM a b ha hb).2.2.1, fun a b c ha hb hc x y => (MM a b ha hb).2.2.2 c hc x y⟩
theorem nice_of {names : List ByteArray} {pairs : List (Int × Int)} {g : Tb} (hc : Clo names.length (layP (diag names.length) pairs) g) (h : newC names pairs g = 0) : Nice names.length g := by
  unfold newC at h
  split at h
  · cases h
  · rename_i q0
    split at h
    · cases h
    · split at h
      · cases h
      · rename_i q2
        split at h
        · cases h
        · rename_i q3
          obtain ⟨n1, n8⟩ := named_len q0
          have F := fillB_iff.1 q3
          refine ⟨n1, n8, fun a ha => hc.le a a (layP_iff.2 (.inl (by simp [diag, ha]))), hc.tr, tws_anti.1 q2, fun a b ha hb => ?_, fun a b ha hb => ?_⟩
          · rcases ovr_spec (f := g) (n := names.length) (a := a) (b := b) (m := names.length) (c := 0) (by omega) with h1 | ⟨h1, _⟩
            · exact h1
            · have := (F a b ha hb).1; omega
          · rcases ovr_spec (f := trn g) (n := names.length) (a := a) (b := b) (m := names.length) (c := 0) (by omega) with h1 | ⟨h1, _⟩
            · exact h1
            · have := (F a b ha hb).2; omega
theorem latR_is {names : List ByteArray} {g : Tb} (N : Nice names.length g) : IsLat (latR names g) (ltR names.length g) := by
  have n8 := N.n8
  refine ⟨by simp [latR], by rw [latR, latE_0]; rfl, by rw [latR, latE_0]; simp [ltR], fun a b ha hb => ?_, fun a b ha hb => ?_, fun a b ha hb => ?_, by rw [latR, latE_b]; rfl, by rw [latR, latE_t]; rfl, N.ok⟩
  · have ha : a < names.length := ha
    have hb : b < names.length := hb
    rw [Nat.mul_one, latR, latE_l _ _ _ _ _ _ (by omega) (by omega)]; rfl
  · have ha : a < names.length := ha
    have hb : b < names.length := hb
    obtain ⟨r, h1, h2⟩ := N.j a b ha hb
    rw [Nat.mul_one, latR, latE_J _ _ _ _ _ _ (by omega) (by omega), JT_full ha hb]
    show _ = FV.int .i64 ((ovr g names.length a b names.length 0).toNat : Nat)
    rw [h1]; simp
  · have ha : a < names.length := ha
    have hb : b < names.length := hb
    obtain ⟨r, h1, h2⟩ := N.m a b ha hb
    rw [Nat.mul_one, latR, latE_M _ _ _ _ _ _ (by omega) (by omega), JT_full ha hb]
    show _ = FV.int .i64 ((ovr (trn g) names.length a b names.length 0).toNat : Nat)
    rw [h1]; simp
end Go.Ab
end
