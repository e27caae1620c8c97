-- Written by a program of the session, out of the translation. Lean checks it.
import Derived.Test.YtgljpoefbphhdaaA1
import Derived.Test.YtgljpoefbphhdaaPrimStr
import Derived.Test.YtgljpoefbphhdaaProg
namespace Go.Ab
open Go.Proofs
noncomputable def tab : Nat → Option AFunc
  | 3 => some A_law08_WordsSplit
  | 4 => some A_law08_WordsParts
  | 5 => some A_law08_WordsJoin
  | 6 => some A_law08_lives
  | 7 => some A_ref03_Signs
  | 8 => some A_ref03_Put
  | 9 => some A_law08_at
  | 10 => some A_words_Split
  | 11 => some A_words_Has
  | 12 => some A_words_Join
  | 13 => some A_words_Times
  | 14 => some A_words_signs
  | 15 => some A_strings_Cut
  | 19 => some A_utf_Signs
  | 20 => some A_utf_First
  | 21 => some A_internal_stringslite_Cut
  | 29 => some A_utf_Valid
  | 39 => some A_utf_size
  | 44 => some A_utf_tail
  | 16 => some A_index
  | 22 => some A_index
  | 17 => some A_join
  | 18 => some A_repeat
  | _ => none
noncomputable def Rt : Orc := RR tab
theorem rt_call {f : Nat} (af : AFunc) {ts : List TV} {r : Ans} (hf : tab f = some af) (hl : (af.prim.isNone && (ts.length == af.np && Nat.blt af.np 1000)) = true) (k : Nat) (h : callL Rt k true af ts = some r) : Rt f ts = some r := RR_call af hf hl k h
theorem rt_prim {f : Nat} {af : AFunc} {p : List TV → Option Ans} {ts : List TV} {r : Ans} (hf : tab f = some af) (hp : af.prim = some p) (h : p ts = some r) : Rt f ts = some r := RR_prim hf hp h
set_option maxRecDepth 100000
theorem cf3 : compF Try.prog mds (livesBy Lv Tv 3) 3 Try.f3 = some A_law08_WordsSplit := by kernel_rfl
theorem cf4 : compF Try.prog mds (livesBy Lv Tv 4) 4 Try.f4 = some A_law08_WordsParts := by kernel_rfl
theorem cf5 : compF Try.prog mds (livesBy Lv Tv 5) 5 Try.f5 = some A_law08_WordsJoin := by kernel_rfl
theorem cf6 : compF Try.prog mds (livesBy Lv Tv 6) 6 Try.f6 = some A_law08_lives := by kernel_rfl
theorem cf7 : compF Try.prog mds (livesBy Lv Tv 7) 7 Try.f7 = some A_ref03_Signs := by kernel_rfl
theorem cf8 : compF Try.prog mds (livesBy Lv Tv 8) 8 Try.f8 = some A_ref03_Put := by kernel_rfl
theorem cf9 : compF Try.prog mds (livesBy Lv Tv 9) 9 Try.f9 = some A_law08_at := by kernel_rfl
theorem cf10 : compF Try.prog mds (livesBy Lv Tv 10) 10 Try.f10 = some A_words_Split := by kernel_rfl
theorem cf11 : compF Try.prog mds (livesBy Lv Tv 11) 11 Try.f11 = some A_words_Has := by kernel_rfl
theorem cf12 : compF Try.prog mds (livesBy Lv Tv 12) 12 Try.f12 = some A_words_Join := by kernel_rfl
theorem cf13 : compF Try.prog mds (livesBy Lv Tv 13) 13 Try.f13 = some A_words_Times := by kernel_rfl
theorem cf14 : compF Try.prog mds (livesBy Lv Tv 14) 14 Try.f14 = some A_words_signs := by kernel_rfl
theorem cf15 : compF Try.prog mds (livesBy Lv Tv 15) 15 Try.f15 = some A_strings_Cut := by kernel_rfl
theorem cf19 : compF Try.prog mds (livesBy Lv Tv 19) 19 Try.f19 = some A_utf_Signs := by kernel_rfl
theorem cf20 : compF Try.prog mds (livesBy Lv Tv 20) 20 Try.f20 = some A_utf_First := by kernel_rfl
theorem cf21 : compF Try.prog mds (livesBy Lv Tv 21) 21 Try.f21 = some A_internal_stringslite_Cut := by kernel_rfl
theorem cf29 : compF Try.prog mds (livesBy Lv Tv 29) 29 Try.f29 = some A_utf_Valid := by kernel_rfl
theorem cf39 : compF Try.prog mds (livesBy Lv Tv 39) 39 Try.f39 = some A_utf_size := by kernel_rfl
theorem cf44 : compF Try.prog mds (livesBy Lv Tv 44) 44 Try.f44 = some A_utf_tail := by kernel_rfl
theorem tab_ok : TabOK Try.prog mds (livesBy Lv Tv) tab := by
  intro f af h
  unfold tab at h
  split at h
  · cases h; exact .inl ⟨Try.f3, by kernel_rfl, cf3⟩
  · cases h; exact .inl ⟨Try.f4, by kernel_rfl, cf4⟩
  · cases h; exact .inl ⟨Try.f5, by kernel_rfl, cf5⟩
  · cases h; exact .inl ⟨Try.f6, by kernel_rfl, cf6⟩
  · cases h; exact .inl ⟨Try.f7, by kernel_rfl, cf7⟩
  · cases h; exact .inl ⟨Try.f8, by kernel_rfl, cf8⟩
  · cases h; exact .inl ⟨Try.f9, by kernel_rfl, cf9⟩
  · cases h; exact .inl ⟨Try.f10, by kernel_rfl, cf10⟩
  · cases h; exact .inl ⟨Try.f11, by kernel_rfl, cf11⟩
  · cases h; exact .inl ⟨Try.f12, by kernel_rfl, cf12⟩
  · cases h; exact .inl ⟨Try.f13, by kernel_rfl, cf13⟩
  · cases h; exact .inl ⟨Try.f14, by kernel_rfl, cf14⟩
  · cases h; exact .inl ⟨Try.f15, by kernel_rfl, cf15⟩
  · cases h; exact .inl ⟨Try.f19, by kernel_rfl, cf19⟩
  · cases h; exact .inl ⟨Try.f20, by kernel_rfl, cf20⟩
  · cases h; exact .inl ⟨Try.f21, by kernel_rfl, cf21⟩
  · cases h; exact .inl ⟨Try.f29, by kernel_rfl, cf29⟩
  · cases h; exact .inl ⟨Try.f39, by kernel_rfl, cf39⟩
  · cases h; exact .inl ⟨Try.f44, by kernel_rfl, cf44⟩
  · cases h; exact .inr ⟨Try.f16, _, rfl, by kernel_rfl, by kernel_rfl, by kernel_rfl, index_prim⟩
  · cases h; exact .inr ⟨Try.f22, _, rfl, by kernel_rfl, by kernel_rfl, by kernel_rfl, lite_prim⟩
  · cases h; exact .inr ⟨Try.f17, _, rfl, by kernel_rfl, by kernel_rfl, by kernel_rfl, join_prim⟩
  · cases h; exact .inr ⟨Try.f18, _, rfl, by kernel_rfl, by kernel_rfl, by kernel_rfl, repeat_prim⟩
  · cases h
end Go.Ab
