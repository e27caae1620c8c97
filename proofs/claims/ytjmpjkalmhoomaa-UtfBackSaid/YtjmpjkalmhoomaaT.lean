-- Written by a program of the session, out of the translation. Lean checks it.
import Derived.Test.YtjmpjkalmhoomaaT0
import Derived.Test.YtjmpjkalmhoomaaA1
import Derived.Test.YtjmpjkalmhoomaaPrimQ
import Derived.Test.YtjmpjkalmhoomaaRd5
import Derived.Test.YtjmpjkalmhoomaaProg
namespace Go.Ab
open Go.Proofs
noncomputable def tab : Nat → Option AFunc
  | 5 => some A_law03_UtfReads
  | 6 => some A_law03_UtfEscapes
  | 7 => some A_law03_UtfBack
  | 8 => some A_law03_lives
  | 10 => some A_ref03_Signs
  | 12 => some A_ref03_Put
  | 13 => some A_utf_Valid
  | 14 => some A_utf_Signs
  | 15 => some A_utf_First
  | 17 => some A_ref03_Unquote
  | 18 => some A_law03_hex
  | 20 => some A_utf_quoted
  | 22 => some A_utf_size
  | 24 => some A_ref03_simple
  | 25 => some A_ref03_four
  | 27 => some A_utf_tail
  | 30 => some A_ref03_digit
  | 9 => some A_quote
  | 16 => some A_unquote
  | _ => none
noncomputable def Rt : Orc := RR tab
theorem rt_call {f : Nat} (af : AFunc) {ts : List TV} {r : Ans} (hf : tab f = some af) (hl : (af.prim.isNone && (ts.length == af.np && Nat.blt af.np 1000)) = true) (k : Nat) (h : callL Rt k true af ts = some r) : Rt f ts = some r := RR_call af hf hl k h
theorem rt_prim {f : Nat} {af : AFunc} {p : List TV → Option Ans} {ts : List TV} {r : Ans} (hf : tab f = some af) (hp : af.prim = some p) (h : p ts = some r) : Rt f ts = some r := RR_prim hf hp h
set_option maxRecDepth 100000
theorem cf5 : compF Try.prog mds (livesBy Lv Tv 5) 5 Try.f5 = some A_law03_UtfReads := by kernel_rfl
theorem cf6 : compF Try.prog mds (livesBy Lv Tv 6) 6 Try.f6 = some A_law03_UtfEscapes := by kernel_rfl
theorem cf7 : compF Try.prog mds (livesBy Lv Tv 7) 7 Try.f7 = some A_law03_UtfBack := by kernel_rfl
theorem cf8 : compF Try.prog mds (livesBy Lv Tv 8) 8 Try.f8 = some A_law03_lives := by kernel_rfl
theorem tab_ok : TabOK Try.prog mds (livesBy Lv Tv) tab := by
  intro f af h
  unfold tab at h
  split at h
  · cases h; exact .inl ⟨Try.f5, by kernel_rfl, cf5⟩
  · cases h; exact .inl ⟨Try.f6, by kernel_rfl, cf6⟩
  · cases h; exact .inl ⟨Try.f7, by kernel_rfl, cf7⟩
  · cases h; exact .inl ⟨Try.f8, by kernel_rfl, cf8⟩
  · cases h; exact .inl ⟨Try.f10, by kernel_rfl, cf10⟩
  · cases h; exact .inl ⟨Try.f12, by kernel_rfl, cf12⟩
  · cases h; exact .inl ⟨Try.f13, by kernel_rfl, cf13⟩
  · cases h; exact .inl ⟨Try.f14, by kernel_rfl, cf14⟩
  · cases h; exact .inl ⟨Try.f15, by kernel_rfl, cf15⟩
  · cases h; exact .inl ⟨Try.f17, by kernel_rfl, cf17⟩
  · cases h; exact .inl ⟨Try.f18, by kernel_rfl, cf18⟩
  · cases h; exact .inl ⟨Try.f20, by kernel_rfl, cf20⟩
  · cases h; exact .inl ⟨Try.f22, by kernel_rfl, cf22⟩
  · cases h; exact .inl ⟨Try.f24, by kernel_rfl, cf24⟩
  · cases h; exact .inl ⟨Try.f25, by kernel_rfl, cf25⟩
  · cases h; exact .inl ⟨Try.f27, by kernel_rfl, cf27⟩
  · cases h; exact .inl ⟨Try.f30, by kernel_rfl, cf30⟩
  · cases h; exact .inr ⟨Try.f9, _, rfl, by kernel_rfl, by kernel_rfl, by kernel_rfl, quote_prim⟩
  · cases h; exact .inr ⟨Try.f16, _, rfl, by kernel_rfl, by kernel_rfl, by kernel_rfl, unquote_prim⟩
  · cases h
theorem lift {f : Nat} {ts : List TV} {r : Ans} (h : Rt0 f ts = some r) : Rt f ts = some r := RR_sub (fun f af h => by
  unfold tab0 at h
  split at h <;> cases h <;> rfl) h
end Go.Ab
