-- Written by a program of the session, out of the translation. Lean checks it.
import Derived.Test.YtpkhkbihmplhcaaA1
import Derived.Test.YtpkhkbihmplhcaaA2
import Derived.Test.YtpkhkbihmplhcaaA3
import Derived.Test.YtpkhkbihmplhcaaA4
import Derived.Test.YtpkhkbihmplhcaaProg
namespace Go.Ab
open Go.Proofs
def Lv : Nat → List (Nat × List Nat × List Nat)
  | 3 => [(8, [1, 2, 9, 11], [1, 2, 6, 9])]
  | 5 => [(7, [2, 4, 8, 9, 11, 12, 13, 14, 15], [6]), (11, [2, 4, 8, 9, 11, 12, 13, 14, 15, 16, 17], [2, 4, 6, 8, 9, 11, 12, 13, 14, 15])]
  | 6 => [(6, [2, 4, 7, 9, 11], [6])]
  | 16 => [(2, [0, 3], [2]), (6, [0, 3, 4, 5], [0, 3, 4])]
  | 17 => [(2, [0, 3], [2]), (6, [0, 3, 4, 5], [0, 3, 4])]
  | 22 => [(4, [1, 3, 4, 5], [4]), (9, [1, 3, 4, 5, 6, 7], [1, 3, 4, 5, 6]), (12, [1, 3, 4, 5, 6, 7, 8], [1, 3, 4, 5, 6, 7])]
  | 29 => [(3, [0, 1, 2, 7, 8], [7]), (7, [0, 1, 2, 7, 8, 9, 10], [0, 1, 2, 7, 8, 9])]
  | 30 => [(4, [0, 15, 16, 17], [2]), (9, [0, 4, 15, 16, 17, 27, 28, 29], [0, 2, 15, 16, 17])]
  | 31 => [(5, [0, 1, 4, 6, 14, 15], [0, 1, 4, 6]), (10, [0, 4, 6, 23, 24, 25], [4, 5, 6])]
  | 32 => [(1, [1, 2, 4], [4]), (3, [1, 2, 4, 5, 10, 11], [1, 2, 4, 5]), (6, [1, 2, 4, 5, 6, 10, 11, 14, 15], [1, 2, 4, 5, 10, 11]), (9, [1, 2, 4, 5, 6, 7, 10, 11, 14, 15, 18, 19], [1, 2, 4, 5, 6, 10, 11, 14, 15])]
  | 33 => [(2, [2, 7, 8], [4]), (5, [2, 5, 7, 8, 11, 12], [2, 4, 7, 8])]
  | 34 => [(3, [0, 1, 5, 14, 15], [0, 1, 4]), (6, [0, 1, 5, 6, 14, 15, 18, 19], [0, 1, 4, 5, 14, 15]), (15, [0, 71, 72], [])]
  | 37 => [(4, [0, 15, 16], [2])]
  | 38 => [(3, [1, 2, 3, 6], [2, 3]), (6, [1, 2, 3, 4, 6, 9], [1, 2, 3, 6])]
  | 39 => [(2, [1, 2, 3, 4, 12, 13], [8]), (7, [1, 2, 3, 4, 9, 10, 12, 13, 30, 31], [1, 2, 3, 4, 9, 10, 12, 13])]
  | _ => []
def Tv : Nat → List (Nat × List Nat × List Nat)
  | 3 => [(4, [1, 2, 7, 8], [0])]
  | 4 => [(7, [3, 6, 7, 8, 10, 11], [0]), (9, [3, 6, 7, 8, 10, 11], [0]), (12, [3, 6, 7, 8], [0])]
  | 5 => [(5, [2, 4, 8, 9], [0]), (13, [2, 4, 8, 9, 11, 12, 13, 14, 15, 16, 17], [0]), (25, [2, 4, 8, 9, 11, 12, 13, 14, 15, 16, 17, 18, 19, 98], [0]), (33, [2, 4, 8, 9, 11, 12, 13, 14, 15, 16, 17, 18, 19, 120], [0]), (35, [2, 4, 8, 9, 11, 12, 13, 14, 15, 16, 17, 18, 19], [0]), (18, [2, 4, 8, 9, 11, 12, 13, 14, 15, 16, 17, 18, 19, 77], [0]), (38, [2, 4, 8, 9, 11, 12, 13, 14, 15, 16, 17, 18, 19], [0])]
  | 6 => [(5, [2, 4, 7, 9], [0]), (15, [2, 4, 7, 9, 11, 12, 13, 14], [0]), (17, [2, 4, 7, 9, 11], [0])]
  | 9 => [(4, [0, 3, 9], [0]), (7, [0, 3], [0])]
  | 10 => [(5, [0, 1], [0])]
  | 27 => [(3, [0, 1, 2], [0])]
  | 29 => [(6, [0, 1, 2, 7, 8, 9], [0])]
  | 30 => [(3, [0], [0])]
  | 31 => [(14, [0, 4, 6, 9, 23, 24, 25], [0])]
  | 37 => [(3, [0], [0]), (8, [0, 3, 4, 5, 15, 16], [0]), (9, [0, 3, 5, 6, 15, 16], [0])]
  | 39 => [(5, [1, 2, 3, 4, 9, 12, 13], [0])]
  | _ => []
def mds : Nat → List Mode × List Mode
  | 3 => ([.fz, .fz, .fz], [.fz])
  | 4 => ([.fz, .fz], [.fz])
  | 5 => ([.fz, .fz, .fz], [.fz])
  | 6 => ([.fz, .fz, .fz], [.fz])
  | 7 => ([.fz], [.fz, .fz])
  | 8 => ([], [.fz])
  | 9 => ([.fz, .fz], [.pv 8 true, .fz])
  | 10 => ([.pv 8 true, .fz], [.fz])
  | 11 => ([.pv 8 true], [.fz])
  | 12 => ([.pv 8 true], [.fz])
  | 13 => ([.pv 8 true, .fz], [.fz])
  | 14 => ([.pv 8 true], [.fz])
  | 15 => ([.pv 8 true], [.fz])
  | 16 => ([.fz], [.fz])
  | 17 => ([.fz], [.fz])
  | 18 => ([.fz, .fz, .fz], [.fz])
  | 19 => ([.fz, .fz, .fz], [.fz])
  | 20 => ([.fz], [.fz])
  | 21 => ([.fz], [.fz, .fz])
  | 22 => ([.fz], [.fz])
  | 23 => ([.fz, .fz], [.fz])
  | 24 => ([.fz], [.fz])
  | 25 => ([.pv 8 true], [.fz])
  | 26 => ([.pv 8 true, .fz], [.fz])
  | 27 => ([.fz, .fz, .fz], [.fz])
  | 28 => ([.fz, .fz, .fz], [.fz])
  | 29 => ([.fz, .fz, .fz], [.fz])
  | 30 => ([.fz], [.fz])
  | 31 => ([.fz, .fz], [.fz, .fz])
  | 32 => ([.fz, .fz], [.fz])
  | 33 => ([.fz, .fz], [.fz])
  | 34 => ([.pv 195 true, .fz], [.fz])
  | 35 => ([.fz], [.fz])
  | 36 => ([.fz], [.fz])
  | 37 => ([.fz], [.fz])
  | 38 => ([.fz], [.fz])
  | 39 => ([.fz, .fz, .fz, .fz], [.fz])
  | _ => ([], [])
def tab : Nat → Option AFunc
  | 3 => some A_law23_MeterAmple
  | 4 => some A_law23_MeterNew
  | 5 => some A_law23_MeterRuns
  | 6 => some A_law23_MeterRises
  | 7 => some A_law23_of
  | 8 => some A_law23_lives
  | 9 => some A_meter_New
  | 10 => some A_meter_Meter_Spend
  | 11 => some A_meter_Meter_Left
  | 12 => some A_meter_Meter_End
  | 13 => some A_meter_Meter_Raise
  | 14 => some A_meter_Meter_Tell
  | 15 => some A_meter_Meter_Label
  | 16 => some A_ref09_Bottom
  | 17 => some A_ref09_Top
  | 18 => some A_ref09_Join
  | 19 => some A_level_Lattice_Leq
  | 20 => some A_ref01_Sort
  | 21 => some A_level_New
  | 22 => some A_ref01_Table
  | 23 => some A_level_Lattice_Is
  | 24 => some A_level_Lattice_Bottom
  | 25 => some A_meter_Meter_done
  | 26 => some A_meter_Meter_stop
  | 27 => some A_level_Lattice_Join
  | 28 => some A_meter_asked_over
  | 29 => some A_ref01_Join
  | 30 => some A_level_named
  | 31 => some A_level_laid
  | 32 => some A_level_closed
  | 33 => some A_level_twisted
  | 34 => some A_level_Lattice_fill
  | 35 => some A_level_Lattice_Size
  | 36 => some A_level_Lattice_Top
  | 37 => some A_level_Name
  | 38 => some A_level_turned
  | 39 => some A_level_over
  | _ => none
noncomputable def Rt : Orc := RR tab
theorem rt_call {f : Nat} (af : AFunc) {ts : List TV} {r : Ans} (hf : tab f = some af) (hl : (ts.length == af.np && Nat.blt af.np 1000) = true) (k : Nat) (h : callL Rt k true af ts = some r) : Rt f ts = some r := RR_call af hf hl k h
set_option maxRecDepth 100000
theorem cf3 : compF Try.prog mds (livesBy Lv Tv 3) 3 Try.f3 = some A_law23_MeterAmple := by kernel_rfl
theorem cf4 : compF Try.prog mds (livesBy Lv Tv 4) 4 Try.f4 = some A_law23_MeterNew := by kernel_rfl
theorem cf5 : compF Try.prog mds (livesBy Lv Tv 5) 5 Try.f5 = some A_law23_MeterRuns := by kernel_rfl
theorem cf6 : compF Try.prog mds (livesBy Lv Tv 6) 6 Try.f6 = some A_law23_MeterRises := by kernel_rfl
theorem cf7 : compF Try.prog mds (livesBy Lv Tv 7) 7 Try.f7 = some A_law23_of := by kernel_rfl
theorem cf8 : compF Try.prog mds (livesBy Lv Tv 8) 8 Try.f8 = some A_law23_lives := by kernel_rfl
theorem cf9 : compF Try.prog mds (livesBy Lv Tv 9) 9 Try.f9 = some A_meter_New := by kernel_rfl
theorem cf10 : compF Try.prog mds (livesBy Lv Tv 10) 10 Try.f10 = some A_meter_Meter_Spend := by kernel_rfl
theorem cf11 : compF Try.prog mds (livesBy Lv Tv 11) 11 Try.f11 = some A_meter_Meter_Left := by kernel_rfl
theorem cf12 : compF Try.prog mds (livesBy Lv Tv 12) 12 Try.f12 = some A_meter_Meter_End := by kernel_rfl
theorem cf13 : compF Try.prog mds (livesBy Lv Tv 13) 13 Try.f13 = some A_meter_Meter_Raise := by kernel_rfl
theorem cf14 : compF Try.prog mds (livesBy Lv Tv 14) 14 Try.f14 = some A_meter_Meter_Tell := by kernel_rfl
theorem cf15 : compF Try.prog mds (livesBy Lv Tv 15) 15 Try.f15 = some A_meter_Meter_Label := by kernel_rfl
theorem cf16 : compF Try.prog mds (livesBy Lv Tv 16) 16 Try.f16 = some A_ref09_Bottom := by kernel_rfl
theorem cf17 : compF Try.prog mds (livesBy Lv Tv 17) 17 Try.f17 = some A_ref09_Top := by kernel_rfl
theorem cf18 : compF Try.prog mds (livesBy Lv Tv 18) 18 Try.f18 = some A_ref09_Join := by kernel_rfl
theorem cf19 : compF Try.prog mds (livesBy Lv Tv 19) 19 Try.f19 = some A_level_Lattice_Leq := by kernel_rfl
theorem cf20 : compF Try.prog mds (livesBy Lv Tv 20) 20 Try.f20 = some A_ref01_Sort := by kernel_rfl
theorem cf21 : compF Try.prog mds (livesBy Lv Tv 21) 21 Try.f21 = some A_level_New := by kernel_rfl
theorem cf22 : compF Try.prog mds (livesBy Lv Tv 22) 22 Try.f22 = some A_ref01_Table := by kernel_rfl
theorem cf23 : compF Try.prog mds (livesBy Lv Tv 23) 23 Try.f23 = some A_level_Lattice_Is := by kernel_rfl
theorem cf24 : compF Try.prog mds (livesBy Lv Tv 24) 24 Try.f24 = some A_level_Lattice_Bottom := by kernel_rfl
theorem cf25 : compF Try.prog mds (livesBy Lv Tv 25) 25 Try.f25 = some A_meter_Meter_done := by kernel_rfl
theorem cf26 : compF Try.prog mds (livesBy Lv Tv 26) 26 Try.f26 = some A_meter_Meter_stop := by kernel_rfl
theorem cf27 : compF Try.prog mds (livesBy Lv Tv 27) 27 Try.f27 = some A_level_Lattice_Join := by kernel_rfl
theorem cf28 : compF Try.prog mds (livesBy Lv Tv 28) 28 Try.f28 = some A_meter_asked_over := by kernel_rfl
theorem cf29 : compF Try.prog mds (livesBy Lv Tv 29) 29 Try.f29 = some A_ref01_Join := by kernel_rfl
theorem cf30 : compF Try.prog mds (livesBy Lv Tv 30) 30 Try.f30 = some A_level_named := by kernel_rfl
theorem cf31 : compF Try.prog mds (livesBy Lv Tv 31) 31 Try.f31 = some A_level_laid := by kernel_rfl
theorem cf32 : compF Try.prog mds (livesBy Lv Tv 32) 32 Try.f32 = some A_level_closed := by kernel_rfl
theorem cf33 : compF Try.prog mds (livesBy Lv Tv 33) 33 Try.f33 = some A_level_twisted := by kernel_rfl
theorem cf34 : compF Try.prog mds (livesBy Lv Tv 34) 34 Try.f34 = some A_level_Lattice_fill := by kernel_rfl
theorem cf35 : compF Try.prog mds (livesBy Lv Tv 35) 35 Try.f35 = some A_level_Lattice_Size := by kernel_rfl
theorem cf36 : compF Try.prog mds (livesBy Lv Tv 36) 36 Try.f36 = some A_level_Lattice_Top := by kernel_rfl
theorem cf37 : compF Try.prog mds (livesBy Lv Tv 37) 37 Try.f37 = some A_level_Name := by kernel_rfl
theorem cf38 : compF Try.prog mds (livesBy Lv Tv 38) 38 Try.f38 = some A_level_turned := by kernel_rfl
theorem cf39 : compF Try.prog mds (livesBy Lv Tv 39) 39 Try.f39 = some A_level_over := by kernel_rfl
theorem tab_ok : TabOK Try.prog mds (livesBy Lv Tv) tab := by
  intro f af h
  unfold tab at h
  split at h
  · cases h; exact ⟨Try.f3, by kernel_rfl, cf3⟩
  · cases h; exact ⟨Try.f4, by kernel_rfl, cf4⟩
  · cases h; exact ⟨Try.f5, by kernel_rfl, cf5⟩
  · cases h; exact ⟨Try.f6, by kernel_rfl, cf6⟩
  · cases h; exact ⟨Try.f7, by kernel_rfl, cf7⟩
  · cases h; exact ⟨Try.f8, by kernel_rfl, cf8⟩
  · cases h; exact ⟨Try.f9, by kernel_rfl, cf9⟩
  · cases h; exact ⟨Try.f10, by kernel_rfl, cf10⟩
  · cases h; exact ⟨Try.f11, by kernel_rfl, cf11⟩
  · cases h; exact ⟨Try.f12, by kernel_rfl, cf12⟩
  · cases h; exact ⟨Try.f13, by kernel_rfl, cf13⟩
  · cases h; exact ⟨Try.f14, by kernel_rfl, cf14⟩
  · cases h; exact ⟨Try.f15, by kernel_rfl, cf15⟩
  · cases h; exact ⟨Try.f16, by kernel_rfl, cf16⟩
  · cases h; exact ⟨Try.f17, by kernel_rfl, cf17⟩
  · cases h; exact ⟨Try.f18, by kernel_rfl, cf18⟩
  · cases h; exact ⟨Try.f19, by kernel_rfl, cf19⟩
  · cases h; exact ⟨Try.f20, by kernel_rfl, cf20⟩
  · cases h; exact ⟨Try.f21, by kernel_rfl, cf21⟩
  · cases h; exact ⟨Try.f22, by kernel_rfl, cf22⟩
  · cases h; exact ⟨Try.f23, by kernel_rfl, cf23⟩
  · cases h; exact ⟨Try.f24, by kernel_rfl, cf24⟩
  · cases h; exact ⟨Try.f25, by kernel_rfl, cf25⟩
  · cases h; exact ⟨Try.f26, by kernel_rfl, cf26⟩
  · cases h; exact ⟨Try.f27, by kernel_rfl, cf27⟩
  · cases h; exact ⟨Try.f28, by kernel_rfl, cf28⟩
  · cases h; exact ⟨Try.f29, by kernel_rfl, cf29⟩
  · cases h; exact ⟨Try.f30, by kernel_rfl, cf30⟩
  · cases h; exact ⟨Try.f31, by kernel_rfl, cf31⟩
  · cases h; exact ⟨Try.f32, by kernel_rfl, cf32⟩
  · cases h; exact ⟨Try.f33, by kernel_rfl, cf33⟩
  · cases h; exact ⟨Try.f34, by kernel_rfl, cf34⟩
  · cases h; exact ⟨Try.f35, by kernel_rfl, cf35⟩
  · cases h; exact ⟨Try.f36, by kernel_rfl, cf36⟩
  · cases h; exact ⟨Try.f37, by kernel_rfl, cf37⟩
  · cases h; exact ⟨Try.f38, by kernel_rfl, cf38⟩
  · cases h; exact ⟨Try.f39, by kernel_rfl, cf39⟩
  · cases h
end Go.Ab
