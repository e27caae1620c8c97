-- Written by a program of the session, out of the translation. Lean checks it.
import Derived.Test.YtppkdbgjflnibaaA1
import Derived.Test.YtppkdbgjflnibaaA2
import Derived.Test.YtppkdbgjflnibaaA3
import Derived.Test.YtppkdbgjflnibaaA4
import Derived.Test.YtppkdbgjflnibaaA5
import Derived.Test.YtppkdbgjflnibaaProg
namespace Go.Ab
open Go.Proofs
def Lv : Nat → List (Nat × List Nat × List Nat)
  | 3 => [(9, [4, 7, 9, 11, 12], [6, 7, 9, 11])]
  | 4 => [(9, [2, 7, 8, 9, 10, 11, 12], [6, 7, 9])]
  | 11 => [(4, [2, 3, 60, 61], [2, 3, 4]), (10, [2, 3, 78, 79], [4])]
  | 17 => [(4, [0, 29, 30, 31], [4])]
  | 18 => [(4, [2, 3, 5], [2, 3, 4]), (9, [2, 3, 6], [4])]
  | 21 => [(4, [1, 3, 4, 5], [4]), (9, [1, 3, 4, 5, 6, 7], [1, 3, 4, 5, 6]), (12, [1, 3, 4, 5, 6, 7, 8], [1, 3, 4, 5, 6, 7])]
  | 22 => [(5, [1, 2, 3, 7], [1])]
  | 23 => [(4, [1, 2, 5], [4])]
  | 24 => [(4, [0, 3, 5], [4])]
  | 25 => [(4, [0, 3, 5], [4])]
  | 26 => [(6, [1, 3, 4], [1, 3]), (12, [1, 5], [2])]
  | 27 => [(7, [1, 2, 3, 4], [2, 3])]
  | 29 => [(3, [0, 2, 6, 7, 23, 24, 25], [0, 2, 6, 7])]
  | 32 => [(3, [0, 1, 2, 7, 8], [7]), (7, [0, 1, 2, 7, 8, 9, 10], [0, 1, 2, 7, 8, 9])]
  | 34 => [(2, [0, 1, 9, 10, 11], [1])]
  | 35 => [(4, [0, 15, 16, 17], [2]), (9, [0, 4, 15, 16, 17, 27, 28, 29], [0, 2, 15, 16, 17])]
  | 36 => [(5, [0, 1, 4, 6, 14, 15], [0, 1, 4, 6]), (10, [0, 4, 6, 23, 24, 25], [4, 5, 6])]
  | 37 => [(1, [1, 2, 4], [4]), (3, [1, 2, 4, 5, 10, 11], [1, 2, 4, 5]), (6, [1, 2, 4, 5, 6, 10, 11, 14, 15], [1, 2, 4, 5, 10, 11]), (9, [1, 2, 4, 5, 6, 7, 10, 11, 14, 15, 18, 19], [1, 2, 4, 5, 6, 10, 11, 14, 15])]
  | 38 => [(2, [2, 7, 8], [4]), (5, [2, 5, 7, 8, 11, 12], [2, 4, 7, 8])]
  | 39 => [(3, [0, 1, 5, 14, 15], [0, 1, 4]), (6, [0, 1, 5, 6, 14, 15, 18, 19], [0, 1, 4, 5, 14, 15]), (15, [0, 71, 72], [])]
  | 40 => [(3, [0, 3, 5, 6], [5])]
  | 41 => [(7, [1, 2, 7], [1, 2, 4]), (13, [1, 2, 10], [4])]
  | 45 => [(1, [0], [2])]
  | 46 => [(2, [0, 5, 6, 7], [2])]
  | 47 => [(2, [0, 1, 9, 10, 11], [1])]
  | 48 => [(4, [0, 15, 16], [2])]
  | 49 => [(3, [1, 2, 3, 6], [2, 3]), (6, [1, 2, 3, 4, 6, 9], [1, 2, 3, 6])]
  | 50 => [(2, [1, 2, 3, 4, 12, 13], [8]), (7, [1, 2, 3, 4, 9, 10, 12, 13, 30, 31], [1, 2, 3, 4, 9, 10, 12, 13])]
  | 52 => [(3, [0, 4, 5], [2, 3, 4]), (15, [0, 4, 5, 7, 8, 9], [0, 2, 3, 4, 5, 7, 8])]
  | 56 => [(4, [0, 1, 9], [8])]
  | _ => []
def Tv : Nat → List (Nat × List Nat × List Nat)
  | 3 => [(4, [4, 5, 7, 8], [0]), (8, [4, 7, 9, 11], [0])]
  | 4 => [(3, [0, 2, 4], [0]), (11, [2, 7, 8, 9, 10, 11, 12], [0])]
  | 5 => [(3, [0, 4, 5], [0])]
  | 11 => [(3, [2, 3], [0])]
  | 12 => [(3, [0, 1, 2], [0])]
  | 15 => [(3, [0, 2, 4, 6], [0])]
  | 17 => [(3, [0, 3], [0])]
  | 18 => [(3, [2, 3], [0])]
  | 24 => [(3, [0, 3], [0])]
  | 26 => [(5, [1, 3], [0])]
  | 32 => [(6, [0, 1, 2, 7, 8, 9], [0])]
  | 33 => [(5, [1, 4, 5], [0]), (10, [1, 4, 20], [0])]
  | 35 => [(3, [0], [0])]
  | 36 => [(14, [0, 4, 6, 9, 23, 24, 25], [0])]
  | 41 => [(3, [1, 2], [0]), (6, [1, 2], [0])]
  | 44 => [(3, [1], [0])]
  | 48 => [(3, [0], [0]), (8, [0, 3, 4, 5, 15, 16], [0]), (9, [0, 3, 5, 6, 15, 16], [0])]
  | 50 => [(5, [1, 2, 3, 4, 9, 12, 13], [0])]
  | 51 => [(3, [1], [0])]
  | 52 => [(7, [0, 4, 5, 6, 7, 8, 25], [0]), (12, [0, 4, 5, 6, 7, 8], [0]), (14, [0, 4, 5, 7, 8], [0]), (20, [0, 4, 5, 7, 8, 9, 10], [0]), (23, [0, 4, 5, 7, 8], [0])]
  | 53 => [(3, [1], [0])]
  | 54 => [(5, [0, 3, 9], [0]), (7, [0, 3, 20], [0]), (8, [0, 3, 20], [0]), (9, [0, 3, 20], [0]), (11, [0, 3, 47], [0]), (12, [0, 3, 47], [0])]
  | 56 => [(3, [0, 1], [0])]
  | _ => []
def mds : Nat → List Mode × List Mode
  | 3 => ([.fz, .fz, .fz], [.fz])
  | 4 => ([.fz, .fz, .fz], [.fz])
  | 5 => ([.fz, .fz, .fz], [.fz])
  | 6 => ([.fz], [.fz, .fz])
  | 7 => ([.fz, .fz], [.fz])
  | 8 => ([.fz, .fz], [.fz])
  | 9 => ([], [.fz])
  | 10 => ([.fz, .fz, .fz], [.fz])
  | 11 => ([.fz, .fz], [.fz])
  | 12 => ([.fz, .fz, .fz], [.fz])
  | 13 => ([.fz], [.fz])
  | 14 => ([.fz, .fz, .fz], [.fz])
  | 15 => ([.fz, .fz, .fz], [.fz, .fz])
  | 16 => ([.fz, .fz, .fz], [.fz])
  | 17 => ([.fz, .fz], [.fz])
  | 18 => ([.fz, .fz], [.fz])
  | 19 => ([.fz], [.fz])
  | 20 => ([.fz], [.fz, .fz])
  | 21 => ([.fz], [.fz])
  | 22 => ([.fz, .fz, .fz], [.fz])
  | 23 => ([.fz, .fz], [.fz])
  | 24 => ([.fz, .fz], [.fz])
  | 25 => ([.fz, .fz], [.fz])
  | 26 => ([.fz], [.fz])
  | 27 => ([.fz], [.fz])
  | 28 => ([.fz, .fz, .fz], [.fz])
  | 29 => ([.fz, .fz, .fz], [.fz])
  | 30 => ([.fz, .fz], [.fz])
  | 31 => ([.fz], [.fz])
  | 32 => ([.fz, .fz, .fz], [.fz])
  | 33 => ([.fz], [.fz])
  | 34 => ([.fz, .fz, .fz], [.fz])
  | 35 => ([.fz], [.fz])
  | 36 => ([.fz, .fz], [.fz, .fz])
  | 37 => ([.fz, .fz], [.fz])
  | 38 => ([.fz, .fz], [.fz])
  | 39 => ([.pv 195 true, .fz], [.fz])
  | 40 => ([.fz, .fz], [.fz])
  | 41 => ([.fz, .fz], [.fz])
  | 42 => ([.fz], [.fz])
  | 43 => ([.fz, .fz, .fz, .fz, .fz], [.fz])
  | 44 => ([.fz], [.fz])
  | 45 => ([.fz], [.fz])
  | 46 => ([.fz], [.fz])
  | 47 => ([.fz, .fz, .fz], [.fz])
  | 48 => ([.fz], [.fz])
  | 49 => ([.fz], [.fz])
  | 50 => ([.fz, .fz, .fz, .fz], [.fz])
  | 51 => ([.fz], [.fz])
  | 52 => ([.fz], [.fz, .fz])
  | 53 => ([.fz], [.fz])
  | 54 => ([.fz], [.fz])
  | 55 => ([.fz], [.fz])
  | 56 => ([.fz, .fz, .fz, .fz], [.fz])
  | _ => ([], [])
def tab : Nat → Option AFunc
  | 3 => some A_law09_NodeRaises
  | 4 => some A_law09_NodeCounts
  | 5 => some A_law09_NodeIs
  | 6 => some A_law09_of
  | 7 => some A_ref09_Light
  | 8 => some A_ref09_Is
  | 9 => some A_law09_lives
  | 10 => some A_node_Raise
  | 11 => some A_node_Same
  | 12 => some A_level_Lattice_Join
  | 13 => some A_level_Lattice_Bottom
  | 14 => some A_level_Lattice_Leq
  | 15 => some A_node_Item
  | 16 => some A_ref09_Join
  | 17 => some A_node_Is
  | 18 => some A_ref09_Same
  | 19 => some A_ref01_Sort
  | 20 => some A_level_New
  | 21 => some A_ref01_Table
  | 22 => some A_ref09_Size
  | 23 => some A_ref09_Flat
  | 24 => some A_ref09_Labels
  | 25 => some A_ref09_right
  | 26 => some A_ref09_shape
  | 27 => some A_ref09_Strip
  | 28 => some A_node_Array
  | 29 => some A_node_Mark
  | 30 => some A_level_Lattice_Is
  | 31 => some A_level_Lattice_Top
  | 32 => some A_ref01_Join
  | 33 => some A_node_fits
  | 34 => some A_node_deep
  | 35 => some A_level_named
  | 36 => some A_level_laid
  | 37 => some A_level_closed
  | 38 => some A_level_twisted
  | 39 => some A_level_Lattice_fill
  | 40 => some A_ref09_Deep
  | 41 => some A_ref05_Is
  | 42 => some A_level_Lattice_Size
  | 43 => some A_node_bare
  | 44 => some A_num_Is
  | 45 => some A_utf_Valid
  | 46 => some A_node_rising
  | 47 => some A_node_join
  | 48 => some A_level_Name
  | 49 => some A_level_turned
  | 50 => some A_level_over
  | 51 => some A_ref05_zero
  | 52 => some A_ref03_Signs
  | 53 => some A_ref04_Is
  | 54 => some A_utf_size
  | 55 => some A_ref03_Put
  | 56 => some A_utf_tail
  | _ => none
noncomputable def Rt : Orc := RR tab
theorem rt_call {f : Nat} (af : AFunc) {ts : List TV} {r : Ans} (hf : tab f = some af) (hl : (ts.length == af.np && Nat.blt af.np 1000) = true) (k : Nat) (h : callL Rt k true af ts = some r) : Rt f ts = some r := RR_call af hf hl k h
set_option maxRecDepth 100000
theorem cf3 : compF Try.prog mds (livesBy Lv Tv 3) 3 Try.f3 = some A_law09_NodeRaises := by kernel_rfl
theorem cf4 : compF Try.prog mds (livesBy Lv Tv 4) 4 Try.f4 = some A_law09_NodeCounts := by kernel_rfl
theorem cf5 : compF Try.prog mds (livesBy Lv Tv 5) 5 Try.f5 = some A_law09_NodeIs := by kernel_rfl
theorem cf6 : compF Try.prog mds (livesBy Lv Tv 6) 6 Try.f6 = some A_law09_of := by kernel_rfl
theorem cf7 : compF Try.prog mds (livesBy Lv Tv 7) 7 Try.f7 = some A_ref09_Light := by kernel_rfl
theorem cf8 : compF Try.prog mds (livesBy Lv Tv 8) 8 Try.f8 = some A_ref09_Is := by kernel_rfl
theorem cf9 : compF Try.prog mds (livesBy Lv Tv 9) 9 Try.f9 = some A_law09_lives := by kernel_rfl
theorem cf10 : compF Try.prog mds (livesBy Lv Tv 10) 10 Try.f10 = some A_node_Raise := by kernel_rfl
theorem cf11 : compF Try.prog mds (livesBy Lv Tv 11) 11 Try.f11 = some A_node_Same := by kernel_rfl
theorem cf12 : compF Try.prog mds (livesBy Lv Tv 12) 12 Try.f12 = some A_level_Lattice_Join := by kernel_rfl
theorem cf13 : compF Try.prog mds (livesBy Lv Tv 13) 13 Try.f13 = some A_level_Lattice_Bottom := by kernel_rfl
theorem cf14 : compF Try.prog mds (livesBy Lv Tv 14) 14 Try.f14 = some A_level_Lattice_Leq := by kernel_rfl
theorem cf15 : compF Try.prog mds (livesBy Lv Tv 15) 15 Try.f15 = some A_node_Item := by kernel_rfl
theorem cf16 : compF Try.prog mds (livesBy Lv Tv 16) 16 Try.f16 = some A_ref09_Join := by kernel_rfl
theorem cf17 : compF Try.prog mds (livesBy Lv Tv 17) 17 Try.f17 = some A_node_Is := by kernel_rfl
theorem cf18 : compF Try.prog mds (livesBy Lv Tv 18) 18 Try.f18 = some A_ref09_Same := by kernel_rfl
theorem cf19 : compF Try.prog mds (livesBy Lv Tv 19) 19 Try.f19 = some A_ref01_Sort := by kernel_rfl
theorem cf20 : compF Try.prog mds (livesBy Lv Tv 20) 20 Try.f20 = some A_level_New := by kernel_rfl
theorem cf21 : compF Try.prog mds (livesBy Lv Tv 21) 21 Try.f21 = some A_ref01_Table := by kernel_rfl
theorem cf22 : compF Try.prog mds (livesBy Lv Tv 22) 22 Try.f22 = some A_ref09_Size := by kernel_rfl
theorem cf23 : compF Try.prog mds (livesBy Lv Tv 23) 23 Try.f23 = some A_ref09_Flat := by kernel_rfl
theorem cf24 : compF Try.prog mds (livesBy Lv Tv 24) 24 Try.f24 = some A_ref09_Labels := by kernel_rfl
theorem cf25 : compF Try.prog mds (livesBy Lv Tv 25) 25 Try.f25 = some A_ref09_right := by kernel_rfl
theorem cf26 : compF Try.prog mds (livesBy Lv Tv 26) 26 Try.f26 = some A_ref09_shape := by kernel_rfl
theorem cf27 : compF Try.prog mds (livesBy Lv Tv 27) 27 Try.f27 = some A_ref09_Strip := by kernel_rfl
theorem cf28 : compF Try.prog mds (livesBy Lv Tv 28) 28 Try.f28 = some A_node_Array := by kernel_rfl
theorem cf29 : compF Try.prog mds (livesBy Lv Tv 29) 29 Try.f29 = some A_node_Mark := by kernel_rfl
theorem cf30 : compF Try.prog mds (livesBy Lv Tv 30) 30 Try.f30 = some A_level_Lattice_Is := by kernel_rfl
theorem cf31 : compF Try.prog mds (livesBy Lv Tv 31) 31 Try.f31 = some A_level_Lattice_Top := by kernel_rfl
theorem cf32 : compF Try.prog mds (livesBy Lv Tv 32) 32 Try.f32 = some A_ref01_Join := by kernel_rfl
theorem cf33 : compF Try.prog mds (livesBy Lv Tv 33) 33 Try.f33 = some A_node_fits := by kernel_rfl
theorem cf34 : compF Try.prog mds (livesBy Lv Tv 34) 34 Try.f34 = some A_node_deep := by kernel_rfl
theorem cf35 : compF Try.prog mds (livesBy Lv Tv 35) 35 Try.f35 = some A_level_named := by kernel_rfl
theorem cf36 : compF Try.prog mds (livesBy Lv Tv 36) 36 Try.f36 = some A_level_laid := by kernel_rfl
theorem cf37 : compF Try.prog mds (livesBy Lv Tv 37) 37 Try.f37 = some A_level_closed := by kernel_rfl
theorem cf38 : compF Try.prog mds (livesBy Lv Tv 38) 38 Try.f38 = some A_level_twisted := by kernel_rfl
theorem cf39 : compF Try.prog mds (livesBy Lv Tv 39) 39 Try.f39 = some A_level_Lattice_fill := by kernel_rfl
theorem cf40 : compF Try.prog mds (livesBy Lv Tv 40) 40 Try.f40 = some A_ref09_Deep := by kernel_rfl
theorem cf41 : compF Try.prog mds (livesBy Lv Tv 41) 41 Try.f41 = some A_ref05_Is := by kernel_rfl
theorem cf42 : compF Try.prog mds (livesBy Lv Tv 42) 42 Try.f42 = some A_level_Lattice_Size := by kernel_rfl
theorem cf43 : compF Try.prog mds (livesBy Lv Tv 43) 43 Try.f43 = some A_node_bare := by kernel_rfl
theorem cf44 : compF Try.prog mds (livesBy Lv Tv 44) 44 Try.f44 = some A_num_Is := by kernel_rfl
theorem cf45 : compF Try.prog mds (livesBy Lv Tv 45) 45 Try.f45 = some A_utf_Valid := by kernel_rfl
theorem cf46 : compF Try.prog mds (livesBy Lv Tv 46) 46 Try.f46 = some A_node_rising := by kernel_rfl
theorem cf47 : compF Try.prog mds (livesBy Lv Tv 47) 47 Try.f47 = some A_node_join := by kernel_rfl
theorem cf48 : compF Try.prog mds (livesBy Lv Tv 48) 48 Try.f48 = some A_level_Name := by kernel_rfl
theorem cf49 : compF Try.prog mds (livesBy Lv Tv 49) 49 Try.f49 = some A_level_turned := by kernel_rfl
theorem cf50 : compF Try.prog mds (livesBy Lv Tv 50) 50 Try.f50 = some A_level_over := by kernel_rfl
theorem cf51 : compF Try.prog mds (livesBy Lv Tv 51) 51 Try.f51 = some A_ref05_zero := by kernel_rfl
theorem cf52 : compF Try.prog mds (livesBy Lv Tv 52) 52 Try.f52 = some A_ref03_Signs := by kernel_rfl
theorem cf53 : compF Try.prog mds (livesBy Lv Tv 53) 53 Try.f53 = some A_ref04_Is := by kernel_rfl
theorem cf54 : compF Try.prog mds (livesBy Lv Tv 54) 54 Try.f54 = some A_utf_size := by kernel_rfl
theorem cf55 : compF Try.prog mds (livesBy Lv Tv 55) 55 Try.f55 = some A_ref03_Put := by kernel_rfl
theorem cf56 : compF Try.prog mds (livesBy Lv Tv 56) 56 Try.f56 = some A_utf_tail := by kernel_rfl
theorem tab_ok : TabOK Try.prog mds (livesBy Lv Tv) tab := by
  intro f af h
  unfold tab at h
  split at h
  · cases h; exact ⟨Try.f3, by kernel_rfl, cf3⟩
  · cases h; exact ⟨Try.f4, by kernel_rfl, cf4⟩
  · cases h; exact ⟨Try.f5, by kernel_rfl, cf5⟩
  · cases h; exact ⟨Try.f6, by kernel_rfl, cf6⟩
  · cases h; exact ⟨Try.f7, by kernel_rfl, cf7⟩
  · cases h; exact ⟨Try.f8, by kernel_rfl, cf8⟩
  · cases h; exact ⟨Try.f9, by kernel_rfl, cf9⟩
  · cases h; exact ⟨Try.f10, by kernel_rfl, cf10⟩
  · cases h; exact ⟨Try.f11, by kernel_rfl, cf11⟩
  · cases h; exact ⟨Try.f12, by kernel_rfl, cf12⟩
  · cases h; exact ⟨Try.f13, by kernel_rfl, cf13⟩
  · cases h; exact ⟨Try.f14, by kernel_rfl, cf14⟩
  · cases h; exact ⟨Try.f15, by kernel_rfl, cf15⟩
  · cases h; exact ⟨Try.f16, by kernel_rfl, cf16⟩
  · cases h; exact ⟨Try.f17, by kernel_rfl, cf17⟩
  · cases h; exact ⟨Try.f18, by kernel_rfl, cf18⟩
  · cases h; exact ⟨Try.f19, by kernel_rfl, cf19⟩
  · cases h; exact ⟨Try.f20, by kernel_rfl, cf20⟩
  · cases h; exact ⟨Try.f21, by kernel_rfl, cf21⟩
  · cases h; exact ⟨Try.f22, by kernel_rfl, cf22⟩
  · cases h; exact ⟨Try.f23, by kernel_rfl, cf23⟩
  · cases h; exact ⟨Try.f24, by kernel_rfl, cf24⟩
  · cases h; exact ⟨Try.f25, by kernel_rfl, cf25⟩
  · cases h; exact ⟨Try.f26, by kernel_rfl, cf26⟩
  · cases h; exact ⟨Try.f27, by kernel_rfl, cf27⟩
  · cases h; exact ⟨Try.f28, by kernel_rfl, cf28⟩
  · cases h; exact ⟨Try.f29, by kernel_rfl, cf29⟩
  · cases h; exact ⟨Try.f30, by kernel_rfl, cf30⟩
  · cases h; exact ⟨Try.f31, by kernel_rfl, cf31⟩
  · cases h; exact ⟨Try.f32, by kernel_rfl, cf32⟩
  · cases h; exact ⟨Try.f33, by kernel_rfl, cf33⟩
  · cases h; exact ⟨Try.f34, by kernel_rfl, cf34⟩
  · cases h; exact ⟨Try.f35, by kernel_rfl, cf35⟩
  · cases h; exact ⟨Try.f36, by kernel_rfl, cf36⟩
  · cases h; exact ⟨Try.f37, by kernel_rfl, cf37⟩
  · cases h; exact ⟨Try.f38, by kernel_rfl, cf38⟩
  · cases h; exact ⟨Try.f39, by kernel_rfl, cf39⟩
  · cases h; exact ⟨Try.f40, by kernel_rfl, cf40⟩
  · cases h; exact ⟨Try.f41, by kernel_rfl, cf41⟩
  · cases h; exact ⟨Try.f42, by kernel_rfl, cf42⟩
  · cases h; exact ⟨Try.f43, by kernel_rfl, cf43⟩
  · cases h; exact ⟨Try.f44, by kernel_rfl, cf44⟩
  · cases h; exact ⟨Try.f45, by kernel_rfl, cf45⟩
  · cases h; exact ⟨Try.f46, by kernel_rfl, cf46⟩
  · cases h; exact ⟨Try.f47, by kernel_rfl, cf47⟩
  · cases h; exact ⟨Try.f48, by kernel_rfl, cf48⟩
  · cases h; exact ⟨Try.f49, by kernel_rfl, cf49⟩
  · cases h; exact ⟨Try.f50, by kernel_rfl, cf50⟩
  · cases h; exact ⟨Try.f51, by kernel_rfl, cf51⟩
  · cases h; exact ⟨Try.f52, by kernel_rfl, cf52⟩
  · cases h; exact ⟨Try.f53, by kernel_rfl, cf53⟩
  · cases h; exact ⟨Try.f54, by kernel_rfl, cf54⟩
  · cases h; exact ⟨Try.f55, by kernel_rfl, cf55⟩
  · cases h; exact ⟨Try.f56, by kernel_rfl, cf56⟩
  · cases h
end Go.Ab
