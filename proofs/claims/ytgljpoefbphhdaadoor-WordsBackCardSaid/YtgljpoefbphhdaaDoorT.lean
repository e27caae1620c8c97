-- Written by a program of the session, out of the translation. Lean checks it.
import Derived.Test.YtgljpoefbphhdaaDoorA1
import Derived.Test.YtgljpoefbphhdaaDoorPrimStr
import Derived.Test.YtgljpoefbphhdaaDoorProg
namespace Go.Ab
open Go.Proofs
noncomputable def tab : Nat → Option AFunc
  | 3 => some A_law08_WordsTurn
  | 4 => some A_law08_WordsBack
  | 5 => some A_law08_lives
  | 6 => some A_law08_at
  | 7 => some A_words_Upper
  | 8 => some A_words_Lower
  | 9 => some A_words_Has
  | 10 => some A_words_Starts
  | 11 => some A_words_Ends
  | 12 => some A_words_Trim
  | 13 => some A_words_Split
  | 14 => some A_words_Join
  | 15 => some A_words_turned
  | 16 => some A_words_Upper_1
  | 17 => some A_words_between
  | 18 => some A_words_Lower_1
  | 20 => some A_strings_HasPrefix
  | 21 => some A_strings_HasSuffix
  | 22 => some A_strings_Trim
  | 23 => some A_words_signs
  | 24 => some A_strings_Cut
  | 27 => some A_internal_stringslite_HasPrefix
  | 28 => some A_internal_stringslite_HasSuffix
  | 29 => some A_strings_trimLeftByte
  | 30 => some A_strings_trimRightByte
  | 31 => some A_strings_makeASCIISet
  | 32 => some A_strings_trimLeftASCII
  | 33 => some A_strings_trimRightASCII
  | 34 => some A_strings_trimLeftUnicode
  | 35 => some A_strings_trimRightUnicode
  | 36 => some A_utf_Signs
  | 37 => some A_utf_First
  | 38 => some A_internal_stringslite_Cut
  | 46 => some A_strings_asciiSet_contains
  | 47 => some A_unicode_utf8_DecodeRuneInString
  | 48 => some A_strings_ContainsRune
  | 50 => some A_utf_Valid
  | 58 => some A_utf_size
  | 63 => some A_utf_tail
  | 19 => some A_index
  | 26 => some A_index
  | 25 => some A_join
  | _ => none
noncomputable def Rt : Orc := RR tab
theorem rt_call {f : Nat} (af : AFunc) {ts : List TV} {r : Ans} (hf : tab f = some af) (hl : (af.prim.isNone && (ts.length == af.np && Nat.blt af.np 1000)) = true) (k : Nat) (h : callL Rt k true af ts = some r) : Rt f ts = some r := RR_call af hf hl k h
theorem rt_prim {f : Nat} {af : AFunc} {p : List TV → Option Ans} {ts : List TV} {r : Ans} (hf : tab f = some af) (hp : af.prim = some p) (h : p ts = some r) : Rt f ts = some r := RR_prim hf hp h
set_option maxRecDepth 100000
theorem cf3 : compF Tryd.prog mds (livesBy Lv Tv 3) 3 Tryd.f3 = some A_law08_WordsTurn := by kernel_rfl
theorem cf4 : compF Tryd.prog mds (livesBy Lv Tv 4) 4 Tryd.f4 = some A_law08_WordsBack := by kernel_rfl
theorem cf5 : compF Tryd.prog mds (livesBy Lv Tv 5) 5 Tryd.f5 = some A_law08_lives := by kernel_rfl
theorem cf6 : compF Tryd.prog mds (livesBy Lv Tv 6) 6 Tryd.f6 = some A_law08_at := by kernel_rfl
theorem cf7 : compF Tryd.prog mds (livesBy Lv Tv 7) 7 Tryd.f7 = some A_words_Upper := by kernel_rfl
theorem cf8 : compF Tryd.prog mds (livesBy Lv Tv 8) 8 Tryd.f8 = some A_words_Lower := by kernel_rfl
theorem cf9 : compF Tryd.prog mds (livesBy Lv Tv 9) 9 Tryd.f9 = some A_words_Has := by kernel_rfl
theorem cf10 : compF Tryd.prog mds (livesBy Lv Tv 10) 10 Tryd.f10 = some A_words_Starts := by kernel_rfl
theorem cf11 : compF Tryd.prog mds (livesBy Lv Tv 11) 11 Tryd.f11 = some A_words_Ends := by kernel_rfl
theorem cf12 : compF Tryd.prog mds (livesBy Lv Tv 12) 12 Tryd.f12 = some A_words_Trim := by kernel_rfl
theorem cf13 : compF Tryd.prog mds (livesBy Lv Tv 13) 13 Tryd.f13 = some A_words_Split := by kernel_rfl
theorem cf14 : compF Tryd.prog mds (livesBy Lv Tv 14) 14 Tryd.f14 = some A_words_Join := by kernel_rfl
theorem cf15 : compF Tryd.prog mds (livesBy Lv Tv 15) 15 Tryd.f15 = some A_words_turned := by kernel_rfl
theorem cf16 : compF Tryd.prog mds (livesBy Lv Tv 16) 16 Tryd.f16 = some A_words_Upper_1 := by kernel_rfl
theorem cf17 : compF Tryd.prog mds (livesBy Lv Tv 17) 17 Tryd.f17 = some A_words_between := by kernel_rfl
theorem cf18 : compF Tryd.prog mds (livesBy Lv Tv 18) 18 Tryd.f18 = some A_words_Lower_1 := by kernel_rfl
theorem cf20 : compF Tryd.prog mds (livesBy Lv Tv 20) 20 Tryd.f20 = some A_strings_HasPrefix := by kernel_rfl
theorem cf21 : compF Tryd.prog mds (livesBy Lv Tv 21) 21 Tryd.f21 = some A_strings_HasSuffix := by kernel_rfl
theorem cf22 : compF Tryd.prog mds (livesBy Lv Tv 22) 22 Tryd.f22 = some A_strings_Trim := by kernel_rfl
theorem cf23 : compF Tryd.prog mds (livesBy Lv Tv 23) 23 Tryd.f23 = some A_words_signs := by kernel_rfl
theorem cf24 : compF Tryd.prog mds (livesBy Lv Tv 24) 24 Tryd.f24 = some A_strings_Cut := by kernel_rfl
theorem cf27 : compF Tryd.prog mds (livesBy Lv Tv 27) 27 Tryd.f27 = some A_internal_stringslite_HasPrefix := by kernel_rfl
theorem cf28 : compF Tryd.prog mds (livesBy Lv Tv 28) 28 Tryd.f28 = some A_internal_stringslite_HasSuffix := by kernel_rfl
theorem cf29 : compF Tryd.prog mds (livesBy Lv Tv 29) 29 Tryd.f29 = some A_strings_trimLeftByte := by kernel_rfl
theorem cf30 : compF Tryd.prog mds (livesBy Lv Tv 30) 30 Tryd.f30 = some A_strings_trimRightByte := by kernel_rfl
theorem cf31 : compF Tryd.prog mds (livesBy Lv Tv 31) 31 Tryd.f31 = some A_strings_makeASCIISet := by kernel_rfl
theorem cf32 : compF Tryd.prog mds (livesBy Lv Tv 32) 32 Tryd.f32 = some A_strings_trimLeftASCII := by kernel_rfl
theorem cf33 : compF Tryd.prog mds (livesBy Lv Tv 33) 33 Tryd.f33 = some A_strings_trimRightASCII := by kernel_rfl
theorem cf34 : compF Tryd.prog mds (livesBy Lv Tv 34) 34 Tryd.f34 = some A_strings_trimLeftUnicode := by kernel_rfl
theorem cf35 : compF Tryd.prog mds (livesBy Lv Tv 35) 35 Tryd.f35 = some A_strings_trimRightUnicode := by kernel_rfl
theorem cf36 : compF Tryd.prog mds (livesBy Lv Tv 36) 36 Tryd.f36 = some A_utf_Signs := by kernel_rfl
theorem cf37 : compF Tryd.prog mds (livesBy Lv Tv 37) 37 Tryd.f37 = some A_utf_First := by kernel_rfl
theorem cf38 : compF Tryd.prog mds (livesBy Lv Tv 38) 38 Tryd.f38 = some A_internal_stringslite_Cut := by kernel_rfl
theorem cf46 : compF Tryd.prog mds (livesBy Lv Tv 46) 46 Tryd.f46 = some A_strings_asciiSet_contains := by kernel_rfl
theorem cf47 : compF Tryd.prog mds (livesBy Lv Tv 47) 47 Tryd.f47 = some A_unicode_utf8_DecodeRuneInString := by kernel_rfl
theorem cf48 : compF Tryd.prog mds (livesBy Lv Tv 48) 48 Tryd.f48 = some A_strings_ContainsRune := by kernel_rfl
theorem cf50 : compF Tryd.prog mds (livesBy Lv Tv 50) 50 Tryd.f50 = some A_utf_Valid := by kernel_rfl
theorem cf58 : compF Tryd.prog mds (livesBy Lv Tv 58) 58 Tryd.f58 = some A_utf_size := by kernel_rfl
theorem cf63 : compF Tryd.prog mds (livesBy Lv Tv 63) 63 Tryd.f63 = some A_utf_tail := by kernel_rfl
theorem tab_ok : TabOK Tryd.prog mds (livesBy Lv Tv) tab := by
  intro f af h
  unfold tab at h
  split at h
  · cases h; exact .inl ⟨Tryd.f3, by kernel_rfl, cf3⟩
  · cases h; exact .inl ⟨Tryd.f4, by kernel_rfl, cf4⟩
  · cases h; exact .inl ⟨Tryd.f5, by kernel_rfl, cf5⟩
  · cases h; exact .inl ⟨Tryd.f6, by kernel_rfl, cf6⟩
  · cases h; exact .inl ⟨Tryd.f7, by kernel_rfl, cf7⟩
  · cases h; exact .inl ⟨Tryd.f8, by kernel_rfl, cf8⟩
  · cases h; exact .inl ⟨Tryd.f9, by kernel_rfl, cf9⟩
  · cases h; exact .inl ⟨Tryd.f10, by kernel_rfl, cf10⟩
  · cases h; exact .inl ⟨Tryd.f11, by kernel_rfl, cf11⟩
  · cases h; exact .inl ⟨Tryd.f12, by kernel_rfl, cf12⟩
  · cases h; exact .inl ⟨Tryd.f13, by kernel_rfl, cf13⟩
  · cases h; exact .inl ⟨Tryd.f14, by kernel_rfl, cf14⟩
  · cases h; exact .inl ⟨Tryd.f15, by kernel_rfl, cf15⟩
  · cases h; exact .inl ⟨Tryd.f16, by kernel_rfl, cf16⟩
  · cases h; exact .inl ⟨Tryd.f17, by kernel_rfl, cf17⟩
  · cases h; exact .inl ⟨Tryd.f18, by kernel_rfl, cf18⟩
  · cases h; exact .inl ⟨Tryd.f20, by kernel_rfl, cf20⟩
  · cases h; exact .inl ⟨Tryd.f21, by kernel_rfl, cf21⟩
  · cases h; exact .inl ⟨Tryd.f22, by kernel_rfl, cf22⟩
  · cases h; exact .inl ⟨Tryd.f23, by kernel_rfl, cf23⟩
  · cases h; exact .inl ⟨Tryd.f24, by kernel_rfl, cf24⟩
  · cases h; exact .inl ⟨Tryd.f27, by kernel_rfl, cf27⟩
  · cases h; exact .inl ⟨Tryd.f28, by kernel_rfl, cf28⟩
  · cases h; exact .inl ⟨Tryd.f29, by kernel_rfl, cf29⟩
  · cases h; exact .inl ⟨Tryd.f30, by kernel_rfl, cf30⟩
  · cases h; exact .inl ⟨Tryd.f31, by kernel_rfl, cf31⟩
  · cases h; exact .inl ⟨Tryd.f32, by kernel_rfl, cf32⟩
  · cases h; exact .inl ⟨Tryd.f33, by kernel_rfl, cf33⟩
  · cases h; exact .inl ⟨Tryd.f34, by kernel_rfl, cf34⟩
  · cases h; exact .inl ⟨Tryd.f35, by kernel_rfl, cf35⟩
  · cases h; exact .inl ⟨Tryd.f36, by kernel_rfl, cf36⟩
  · cases h; exact .inl ⟨Tryd.f37, by kernel_rfl, cf37⟩
  · cases h; exact .inl ⟨Tryd.f38, by kernel_rfl, cf38⟩
  · cases h; exact .inl ⟨Tryd.f46, by kernel_rfl, cf46⟩
  · cases h; exact .inl ⟨Tryd.f47, by kernel_rfl, cf47⟩
  · cases h; exact .inl ⟨Tryd.f48, by kernel_rfl, cf48⟩
  · cases h; exact .inl ⟨Tryd.f50, by kernel_rfl, cf50⟩
  · cases h; exact .inl ⟨Tryd.f58, by kernel_rfl, cf58⟩
  · cases h; exact .inl ⟨Tryd.f63, by kernel_rfl, cf63⟩
  · cases h; exact .inr ⟨Tryd.f19, _, rfl, by kernel_rfl, by kernel_rfl, by kernel_rfl, index_prim⟩
  · cases h; exact .inr ⟨Tryd.f26, _, rfl, by kernel_rfl, by kernel_rfl, by kernel_rfl, lite_prim⟩
  · cases h; exact .inr ⟨Tryd.f25, _, rfl, by kernel_rfl, by kernel_rfl, by kernel_rfl, join_prim⟩
  · cases h
end Go.Ab
