-- Written by a program of the session, out of the translation. Lean checks it.
import Derived.Test.YtjkdheebgmnpmaaA1
import Derived.Test.YtjkdheebgmnpmaaA2
import Derived.Test.YtjkdheebgmnpmaaA3
import Derived.Test.YtjkdheebgmnpmaaProg
namespace Go.Ab
open Go.Proofs
def Lv : Nat → List (Nat × List Nat × List Nat)
  | 4 => [(9, [3, 4, 7, 8, 9, 12], [3, 4, 6, 7, 8, 9]), (23, [3, 7, 9, 21, 22], [3, 6, 7, 9, 21]), (28, [3, 7, 9, 21, 23], [6, 9, 21])]
  | 9 => [(7, [1, 2, 7], [1, 2, 4]), (13, [1, 2, 10], [4])]
  | 12 => [(4, [2, 3, 5], [2, 3, 4]), (9, [2, 3, 6], [4])]
  | 14 => [(5, [1, 2, 3, 7], [1])]
  | 23 => [(4, [2, 3, 46, 47], [2, 3, 4]), (10, [2, 3, 64, 65], [4])]
  | 24 => [(4, [1, 2, 5], [4])]
  | 26 => [(3, [0, 4, 5], [2, 3, 4]), (15, [0, 4, 5, 7, 8, 9], [0, 2, 3, 4, 5, 7, 8])]
  | 28 => [(2, [0, 1, 8, 9, 10], [0, 4, 5])]
  | 32 => [(3, [0, 1, 4], [0, 1, 4])]
  | 35 => [(1, [0], [2])]
  | 36 => [(2, [1, 7, 8, 9], [4])]
  | 37 => [(2, [0, 5, 6, 7], [2])]
  | 39 => [(4, [0, 1, 9], [8])]
  | _ => []
def Tv : Nat → List (Nat × List Nat × List Nat)
  | 3 => [(3, [3, 4, 5], [0])]
  | 4 => [(4, [3, 4, 7, 8], [0]), (6, [3, 4, 7, 8, 9, 54], [0]), (8, [3, 4, 7, 8, 9], [0]), (18, [3, 7, 9], [0]), (22, [3, 7, 9, 21], [0])]
  | 6 => [(4, [0, 1, 2, 7, 8, 20], [0]), (5, [0, 1, 2, 8], [0]), (7, [0, 1, 2, 8, 9, 10], [0]), (9, [0, 2, 8, 9], [0])]
  | 7 => [(3, [2, 3], [0])]
  | 9 => [(3, [1, 2], [0]), (6, [1, 2], [0])]
  | 11 => [(3, [1, 3, 5, 6], [0]), (7, [1, 3, 5, 6, 7, 9], [0])]
  | 12 => [(3, [2, 3], [0])]
  | 13 => [(3, [1, 2, 4], [0])]
  | 20 => [(6, [3, 6], [0])]
  | 23 => [(3, [2, 3], [0])]
  | 25 => [(3, [1], [0])]
  | 26 => [(7, [0, 4, 5, 6, 7, 8, 25], [0]), (12, [0, 4, 5, 6, 7, 8], [0]), (14, [0, 4, 5, 7, 8], [0]), (20, [0, 4, 5, 7, 8, 9, 10], [0]), (23, [0, 4, 5, 7, 8], [0])]
  | 27 => [(3, [1], [0])]
  | 30 => [(7, [1, 2, 8, 9], [0]), (12, [1, 2, 8, 24], [0])]
  | 32 => [(3, [0, 1, 4], [0]), (4, [0, 1, 4], [0])]
  | 34 => [(3, [1], [0])]
  | 38 => [(5, [0, 3, 9], [0]), (7, [0, 3, 20], [0]), (8, [0, 3, 20], [0]), (9, [0, 3, 20], [0]), (11, [0, 3, 47], [0]), (12, [0, 3, 47], [0])]
  | 39 => [(3, [0, 1], [0])]
  | _ => []
def mds : Nat → List Mode × List Mode
  | 3 => ([.fz, .fz, .fz], [.fz])
  | 4 => ([.fz, .fz, .fz], [.fz])
  | 6 => ([.fz, .fz, .fz], [.fz])
  | 7 => ([.fz, .fz], [.fz])
  | 8 => ([.fz, .fz], [.fz])
  | 9 => ([.fz, .fz], [.fz])
  | 10 => ([], [.fz])
  | 11 => ([.fz, .fz, .fz], [.fz])
  | 12 => ([.fz, .fz], [.fz])
  | 13 => ([.fz, .fz], [.fz, .fz])
  | 14 => ([.fz, .fz, .fz], [.fz])
  | 16 => ([.fz], [.fz])
  | 17 => ([.fz], [.fz])
  | 18 => ([.fz], [.fz])
  | 19 => ([.fz], [.fz])
  | 20 => ([.fz], [.fz])
  | 21 => ([.fz], [.fz])
  | 22 => ([.fz], [.fz])
  | 23 => ([.fz, .fz], [.fz])
  | 24 => ([.fz, .fz], [.fz])
  | 25 => ([.fz], [.fz])
  | 26 => ([.fz], [.fz, .fz])
  | 27 => ([.fz], [.fz])
  | 28 => ([.fz, .fz], [.fz, .fz])
  | 29 => ([.fz], [.fz, .fz])
  | 30 => ([.fz, .fz], [.fz])
  | 31 => ([.fz], [.fz])
  | 32 => ([.fz, .fz], [.fz, .fz])
  | 33 => ([.fz, .fz, .fz, .fz, .fz], [.fz])
  | 34 => ([.fz], [.fz])
  | 35 => ([.fz], [.fz])
  | 36 => ([.fz, .fz], [.fz])
  | 37 => ([.fz], [.fz])
  | 38 => ([.fz], [.fz])
  | 39 => ([.fz, .fz, .fz, .fz], [.fz])
  | _ => ([], [])
def tab : Nat → Option AFunc
  | 3 => some A_law05_JvalTurns
  | 4 => some A_law05_JvalPuts
  | 6 => some A_law05_JvalSimple
  | 7 => some A_law05_JvalIs
  | 8 => some A_ref05_Light
  | 9 => some A_ref05_Is
  | 10 => some A_law05_lives
  | 11 => some A_jval_Put
  | 12 => some A_ref05_Same
  | 13 => some A_jval_Get
  | 14 => some A_ref05_Size
  | 16 => some A_jval_Int
  | 17 => some A_jval_Text
  | 18 => some A_jval_Wrong
  | 19 => some A_jval_List
  | 20 => some A_jval_Name
  | 21 => some A_jval_Truth
  | 22 => some A_jval_Is
  | 23 => some A_jval_Same
  | 24 => some A_ref05_Flat
  | 25 => some A_ref05_zero
  | 26 => some A_ref03_Signs
  | 27 => some A_ref04_Is
  | 28 => some A_jval_place
  | 29 => some A_num_Int
  | 30 => some A_jval_is
  | 31 => some A_ref03_Put
  | 32 => some A_num_Make
  | 33 => some A_jval_bare
  | 34 => some A_num_Is
  | 35 => some A_utf_Valid
  | 36 => some A_jval_items
  | 37 => some A_jval_rising
  | 38 => some A_utf_size
  | 39 => some A_utf_tail
  | _ => none
noncomputable def Rt : Orc := RR tab
theorem rt_call {f : Nat} (af : AFunc) {ts : List TV} {r : Ans} (hf : tab f = some af) (hl : (ts.length == af.np && Nat.blt af.np 1000) = true) (k : Nat) (h : callL Rt k true af ts = some r) : Rt f ts = some r := RR_call af hf hl k h
set_option maxRecDepth 100000
theorem cf3 : compF Try.prog mds (livesBy Lv Tv 3) 3 Try.f3 = some A_law05_JvalTurns := by kernel_rfl
theorem cf4 : compF Try.prog mds (livesBy Lv Tv 4) 4 Try.f4 = some A_law05_JvalPuts := by kernel_rfl
theorem cf6 : compF Try.prog mds (livesBy Lv Tv 6) 6 Try.f6 = some A_law05_JvalSimple := by kernel_rfl
theorem cf7 : compF Try.prog mds (livesBy Lv Tv 7) 7 Try.f7 = some A_law05_JvalIs := by kernel_rfl
theorem cf8 : compF Try.prog mds (livesBy Lv Tv 8) 8 Try.f8 = some A_ref05_Light := by kernel_rfl
theorem cf9 : compF Try.prog mds (livesBy Lv Tv 9) 9 Try.f9 = some A_ref05_Is := by kernel_rfl
theorem cf10 : compF Try.prog mds (livesBy Lv Tv 10) 10 Try.f10 = some A_law05_lives := by kernel_rfl
theorem cf11 : compF Try.prog mds (livesBy Lv Tv 11) 11 Try.f11 = some A_jval_Put := by kernel_rfl
theorem cf12 : compF Try.prog mds (livesBy Lv Tv 12) 12 Try.f12 = some A_ref05_Same := by kernel_rfl
theorem cf13 : compF Try.prog mds (livesBy Lv Tv 13) 13 Try.f13 = some A_jval_Get := by kernel_rfl
theorem cf14 : compF Try.prog mds (livesBy Lv Tv 14) 14 Try.f14 = some A_ref05_Size := by kernel_rfl
theorem cf16 : compF Try.prog mds (livesBy Lv Tv 16) 16 Try.f16 = some A_jval_Int := by kernel_rfl
theorem cf17 : compF Try.prog mds (livesBy Lv Tv 17) 17 Try.f17 = some A_jval_Text := by kernel_rfl
theorem cf18 : compF Try.prog mds (livesBy Lv Tv 18) 18 Try.f18 = some A_jval_Wrong := by kernel_rfl
theorem cf19 : compF Try.prog mds (livesBy Lv Tv 19) 19 Try.f19 = some A_jval_List := by kernel_rfl
theorem cf20 : compF Try.prog mds (livesBy Lv Tv 20) 20 Try.f20 = some A_jval_Name := by kernel_rfl
theorem cf21 : compF Try.prog mds (livesBy Lv Tv 21) 21 Try.f21 = some A_jval_Truth := by kernel_rfl
theorem cf22 : compF Try.prog mds (livesBy Lv Tv 22) 22 Try.f22 = some A_jval_Is := by kernel_rfl
theorem cf23 : compF Try.prog mds (livesBy Lv Tv 23) 23 Try.f23 = some A_jval_Same := by kernel_rfl
theorem cf24 : compF Try.prog mds (livesBy Lv Tv 24) 24 Try.f24 = some A_ref05_Flat := by kernel_rfl
theorem cf25 : compF Try.prog mds (livesBy Lv Tv 25) 25 Try.f25 = some A_ref05_zero := by kernel_rfl
theorem cf26 : compF Try.prog mds (livesBy Lv Tv 26) 26 Try.f26 = some A_ref03_Signs := by kernel_rfl
theorem cf27 : compF Try.prog mds (livesBy Lv Tv 27) 27 Try.f27 = some A_ref04_Is := by kernel_rfl
theorem cf28 : compF Try.prog mds (livesBy Lv Tv 28) 28 Try.f28 = some A_jval_place := by kernel_rfl
theorem cf29 : compF Try.prog mds (livesBy Lv Tv 29) 29 Try.f29 = some A_num_Int := by kernel_rfl
theorem cf30 : compF Try.prog mds (livesBy Lv Tv 30) 30 Try.f30 = some A_jval_is := by kernel_rfl
theorem cf31 : compF Try.prog mds (livesBy Lv Tv 31) 31 Try.f31 = some A_ref03_Put := by kernel_rfl
theorem cf32 : compF Try.prog mds (livesBy Lv Tv 32) 32 Try.f32 = some A_num_Make := by kernel_rfl
theorem cf33 : compF Try.prog mds (livesBy Lv Tv 33) 33 Try.f33 = some A_jval_bare := by kernel_rfl
theorem cf34 : compF Try.prog mds (livesBy Lv Tv 34) 34 Try.f34 = some A_num_Is := by kernel_rfl
theorem cf35 : compF Try.prog mds (livesBy Lv Tv 35) 35 Try.f35 = some A_utf_Valid := by kernel_rfl
theorem cf36 : compF Try.prog mds (livesBy Lv Tv 36) 36 Try.f36 = some A_jval_items := by kernel_rfl
theorem cf37 : compF Try.prog mds (livesBy Lv Tv 37) 37 Try.f37 = some A_jval_rising := by kernel_rfl
theorem cf38 : compF Try.prog mds (livesBy Lv Tv 38) 38 Try.f38 = some A_utf_size := by kernel_rfl
theorem cf39 : compF Try.prog mds (livesBy Lv Tv 39) 39 Try.f39 = some A_utf_tail := by kernel_rfl
theorem tab_ok : TabOK Try.prog mds (livesBy Lv Tv) tab := by
  intro f af h
  unfold tab at h
  split at h
  · cases h; exact ⟨Try.f3, by kernel_rfl, cf3⟩
  · cases h; exact ⟨Try.f4, by kernel_rfl, cf4⟩
  · cases h; exact ⟨Try.f6, by kernel_rfl, cf6⟩
  · cases h; exact ⟨Try.f7, by kernel_rfl, cf7⟩
  · cases h; exact ⟨Try.f8, by kernel_rfl, cf8⟩
  · cases h; exact ⟨Try.f9, by kernel_rfl, cf9⟩
  · cases h; exact ⟨Try.f10, by kernel_rfl, cf10⟩
  · cases h; exact ⟨Try.f11, by kernel_rfl, cf11⟩
  · cases h; exact ⟨Try.f12, by kernel_rfl, cf12⟩
  · cases h; exact ⟨Try.f13, by kernel_rfl, cf13⟩
  · cases h; exact ⟨Try.f14, by kernel_rfl, cf14⟩
  · cases h; exact ⟨Try.f16, by kernel_rfl, cf16⟩
  · cases h; exact ⟨Try.f17, by kernel_rfl, cf17⟩
  · cases h; exact ⟨Try.f18, by kernel_rfl, cf18⟩
  · cases h; exact ⟨Try.f19, by kernel_rfl, cf19⟩
  · cases h; exact ⟨Try.f20, by kernel_rfl, cf20⟩
  · cases h; exact ⟨Try.f21, by kernel_rfl, cf21⟩
  · cases h; exact ⟨Try.f22, by kernel_rfl, cf22⟩
  · cases h; exact ⟨Try.f23, by kernel_rfl, cf23⟩
  · cases h; exact ⟨Try.f24, by kernel_rfl, cf24⟩
  · cases h; exact ⟨Try.f25, by kernel_rfl, cf25⟩
  · cases h; exact ⟨Try.f26, by kernel_rfl, cf26⟩
  · cases h; exact ⟨Try.f27, by kernel_rfl, cf27⟩
  · cases h; exact ⟨Try.f28, by kernel_rfl, cf28⟩
  · cases h; exact ⟨Try.f29, by kernel_rfl, cf29⟩
  · cases h; exact ⟨Try.f30, by kernel_rfl, cf30⟩
  · cases h; exact ⟨Try.f31, by kernel_rfl, cf31⟩
  · cases h; exact ⟨Try.f32, by kernel_rfl, cf32⟩
  · cases h; exact ⟨Try.f33, by kernel_rfl, cf33⟩
  · cases h; exact ⟨Try.f34, by kernel_rfl, cf34⟩
  · cases h; exact ⟨Try.f35, by kernel_rfl, cf35⟩
  · cases h; exact ⟨Try.f36, by kernel_rfl, cf36⟩
  · cases h; exact ⟨Try.f37, by kernel_rfl, cf37⟩
  · cases h; exact ⟨Try.f38, by kernel_rfl, cf38⟩
  · cases h; exact ⟨Try.f39, by kernel_rfl, cf39⟩
  · cases h
end Go.Ab
