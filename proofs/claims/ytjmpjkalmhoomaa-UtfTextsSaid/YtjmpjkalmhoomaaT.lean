-- Written by a program of the session, out of the translation. Lean checks it.
import Derived.Test.YtjmpjkalmhoomaaT0
import Derived.Test.YtjmpjkalmhoomaaA1
import Derived.Test.YtjmpjkalmhoomaaPrimQ
import Derived.Test.YtjmpjkalmhoomaaProg
namespace Go.Ab
open Go.Proofs
noncomputable def tab : Nat → Option AFunc
  | 3 => some A_law03_UtfQuotes
  | 4 => some A_law03_UtfTexts
  | 8 => some A_law03_lives
  | 10 => some A_ref03_Signs
  | 11 => some A_ref03_Quote
  | 12 => some A_ref03_Put
  | 13 => some A_utf_Valid
  | 14 => some A_utf_Signs
  | 15 => some A_utf_First
  | 20 => some A_utf_quoted
  | 22 => some A_utf_size
  | 27 => some A_utf_tail
  | 9 => some A_quote
  | _ => none
noncomputable def Rt : Orc := RR tab
theorem rt_call {f : Nat} (af : AFunc) {ts : List TV} {r : Ans} (hf : tab f = some af) (hl : (af.prim.isNone && (ts.length == af.np && Nat.blt af.np 1000)) = true) (k : Nat) (h : callL Rt k true af ts = some r) : Rt f ts = some r := RR_call af hf hl k h
theorem rt_prim {f : Nat} {af : AFunc} {p : List TV → Option Ans} {ts : List TV} {r : Ans} (hf : tab f = some af) (hp : af.prim = some p) (h : p ts = some r) : Rt f ts = some r := RR_prim hf hp h
set_option maxRecDepth 100000
theorem cf3 : compF Try.prog mds (livesBy Lv Tv 3) 3 Try.f3 = some A_law03_UtfQuotes := by kernel_rfl
theorem cf4 : compF Try.prog mds (livesBy Lv Tv 4) 4 Try.f4 = some A_law03_UtfTexts := by kernel_rfl
theorem cf8 : compF Try.prog mds (livesBy Lv Tv 8) 8 Try.f8 = some A_law03_lives := by kernel_rfl
theorem tab_ok : TabOK Try.prog mds (livesBy Lv Tv) tab := by
  intro f af h
  unfold tab at h
  split at h
  · cases h; exact .inl ⟨Try.f3, by kernel_rfl, cf3⟩
  · cases h; exact .inl ⟨Try.f4, by kernel_rfl, cf4⟩
  · cases h; exact .inl ⟨Try.f8, by kernel_rfl, cf8⟩
  · cases h; exact .inl ⟨Try.f10, by kernel_rfl, cf10⟩
  · cases h; exact .inl ⟨Try.f11, by kernel_rfl, cf11⟩
  · cases h; exact .inl ⟨Try.f12, by kernel_rfl, cf12⟩
  · cases h; exact .inl ⟨Try.f13, by kernel_rfl, cf13⟩
  · cases h; exact .inl ⟨Try.f14, by kernel_rfl, cf14⟩
  · cases h; exact .inl ⟨Try.f15, by kernel_rfl, cf15⟩
  · cases h; exact .inl ⟨Try.f20, by kernel_rfl, cf20⟩
  · cases h; exact .inl ⟨Try.f22, by kernel_rfl, cf22⟩
  · cases h; exact .inl ⟨Try.f27, by kernel_rfl, cf27⟩
  · cases h; exact .inr ⟨Try.f9, _, rfl, by kernel_rfl, by kernel_rfl, by kernel_rfl, quote_prim⟩
  · cases h
theorem lift {f : Nat} {ts : List TV} {r : Ans} (h : Rt0 f ts = some r) : Rt f ts = some r := RR_sub (fun f af h => by
  unfold tab0 at h
  split at h <;> cases h <;> rfl) h
end Go.Ab
