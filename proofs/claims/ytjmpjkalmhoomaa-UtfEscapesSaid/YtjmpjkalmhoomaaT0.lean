-- Written by a program of the session, out of the translation. Lean checks it.
import Derived.Test.YtjmpjkalmhoomaaA1
import Derived.Test.YtjmpjkalmhoomaaProg
namespace Go.Ab
open Go.Proofs
noncomputable def tab0 : Nat → Option AFunc
  | 10 => some A_ref03_Signs
  | 12 => some A_ref03_Put
  | 13 => some A_utf_Valid
  | 14 => some A_utf_Signs
  | 15 => some A_utf_First
  | 17 => some A_ref03_Unquote
  | 18 => some A_law03_hex
  | 20 => some A_utf_quoted
  | 22 => some A_utf_size
  | 24 => some A_ref03_simple
  | 25 => some A_ref03_four
  | 27 => some A_utf_tail
  | 30 => some A_ref03_digit
  | _ => none
noncomputable def Rt0 : Orc := RR tab0
theorem rt_call0 {f : Nat} (af : AFunc) {ts : List TV} {r : Ans} (hf : tab0 f = some af) (hl : (af.prim.isNone && (ts.length == af.np && Nat.blt af.np 1000)) = true) (k : Nat) (h : callL Rt0 k true af ts = some r) : Rt0 f ts = some r := RR_call af hf hl k h
set_option maxRecDepth 100000
theorem cf10 : compF Try.prog mds (livesBy Lv Tv 10) 10 Try.f10 = some A_ref03_Signs := by kernel_rfl
theorem cf12 : compF Try.prog mds (livesBy Lv Tv 12) 12 Try.f12 = some A_ref03_Put := by kernel_rfl
theorem cf13 : compF Try.prog mds (livesBy Lv Tv 13) 13 Try.f13 = some A_utf_Valid := by kernel_rfl
theorem cf14 : compF Try.prog mds (livesBy Lv Tv 14) 14 Try.f14 = some A_utf_Signs := by kernel_rfl
theorem cf15 : compF Try.prog mds (livesBy Lv Tv 15) 15 Try.f15 = some A_utf_First := by kernel_rfl
theorem cf17 : compF Try.prog mds (livesBy Lv Tv 17) 17 Try.f17 = some A_ref03_Unquote := by kernel_rfl
theorem cf18 : compF Try.prog mds (livesBy Lv Tv 18) 18 Try.f18 = some A_law03_hex := by kernel_rfl
theorem cf20 : compF Try.prog mds (livesBy Lv Tv 20) 20 Try.f20 = some A_utf_quoted := by kernel_rfl
theorem cf22 : compF Try.prog mds (livesBy Lv Tv 22) 22 Try.f22 = some A_utf_size := by kernel_rfl
theorem cf24 : compF Try.prog mds (livesBy Lv Tv 24) 24 Try.f24 = some A_ref03_simple := by kernel_rfl
theorem cf25 : compF Try.prog mds (livesBy Lv Tv 25) 25 Try.f25 = some A_ref03_four := by kernel_rfl
theorem cf27 : compF Try.prog mds (livesBy Lv Tv 27) 27 Try.f27 = some A_utf_tail := by kernel_rfl
theorem cf30 : compF Try.prog mds (livesBy Lv Tv 30) 30 Try.f30 = some A_ref03_digit := by kernel_rfl
theorem tab0_ok : TabOK Try.prog mds (livesBy Lv Tv) tab0 := by
  intro f af h
  unfold tab0 at h
  split at h
  · cases h; exact .inl ⟨Try.f10, by kernel_rfl, cf10⟩
  · cases h; exact .inl ⟨Try.f12, by kernel_rfl, cf12⟩
  · cases h; exact .inl ⟨Try.f13, by kernel_rfl, cf13⟩
  · cases h; exact .inl ⟨Try.f14, by kernel_rfl, cf14⟩
  · cases h; exact .inl ⟨Try.f15, by kernel_rfl, cf15⟩
  · cases h; exact .inl ⟨Try.f17, by kernel_rfl, cf17⟩
  · cases h; exact .inl ⟨Try.f18, by kernel_rfl, cf18⟩
  · cases h; exact .inl ⟨Try.f20, by kernel_rfl, cf20⟩
  · cases h; exact .inl ⟨Try.f22, by kernel_rfl, cf22⟩
  · cases h; exact .inl ⟨Try.f24, by kernel_rfl, cf24⟩
  · cases h; exact .inl ⟨Try.f25, by kernel_rfl, cf25⟩
  · cases h; exact .inl ⟨Try.f27, by kernel_rfl, cf27⟩
  · cases h; exact .inl ⟨Try.f30, by kernel_rfl, cf30⟩
  · cases h
end Go.Ab
