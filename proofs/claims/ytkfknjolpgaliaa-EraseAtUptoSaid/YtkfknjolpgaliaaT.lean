-- Written by a program of the session, out of the translation. Lean checks it.
import Derived.Test.YtkfknjolpgaliaaA1
import Derived.Test.YtkfknjolpgaliaaA2
import Derived.Test.YtkfknjolpgaliaaA3
import Derived.Test.YtkfknjolpgaliaaProg
namespace Go.Ab
open Go.Proofs
noncomputable def tab : Nat → Option AFunc
  | 3 => some A_law11_EraseTop
  | 4 => some A_law11_EraseAt
  | 5 => some A_law11_EraseSwaps
  | 6 => some A_law11_EraseAlike
  | 7 => some A_law11_of
  | 8 => some A_law11_light
  | 9 => some A_law11_lives
  | 10 => some A_erase_At
  | 11 => some A_level_Lattice_Top
  | 12 => some A_erase_Seen
  | 13 => some A_ref09_Size
  | 14 => some A_ref05_Same
  | 15 => some A_ref09_Strip
  | 16 => some A_ref11_Erase
  | 17 => some A_ref09_Same
  | 18 => some A_ref11_Seen
  | 19 => some A_erase_Alike
  | 20 => some A_erase_Swap
  | 21 => some A_ref11_Swap
  | 22 => some A_ref09_Bottom
  | 23 => some A_ref09_Is
  | 24 => some A_level_Lattice_Leq
  | 25 => some A_node_Same
  | 26 => some A_ref01_Sort
  | 27 => some A_level_New
  | 28 => some A_ref01_Table
  | 29 => some A_ref09_Light
  | 30 => some A_node_Array
  | 31 => some A_node_Mark
  | 32 => some A_erase_under
  | 33 => some A_level_Lattice_Bottom
  | 34 => some A_erase_count
  | 35 => some A_ref11_At
  | 36 => some A_erase_swap
  | 37 => some A_ref09_Join
  | 38 => some A_ref11_sees
  | 39 => some A_ref09_Deep
  | 40 => some A_ref09_Labels
  | 41 => some A_ref09_right
  | 42 => some A_ref09_shape
  | 43 => some A_level_Lattice_Is
  | 44 => some A_level_named
  | 45 => some A_level_laid
  | 46 => some A_level_closed
  | 47 => some A_level_twisted
  | 48 => some A_level_Lattice_fill
  | 49 => some A_ref09_Flat
  | 50 => some A_node_deep
  | 51 => some A_level_Lattice_Join
  | 52 => some A_erase_hole
  | 53 => some A_ref09_Top
  | 54 => some A_node_Raise
  | 55 => some A_ref01_Join
  | 56 => some A_ref05_Is
  | 57 => some A_level_Lattice_Size
  | 58 => some A_level_Name
  | 59 => some A_level_turned
  | 60 => some A_level_over
  | 61 => some A_node_join
  | 62 => some A_ref05_zero
  | 63 => some A_ref03_Signs
  | 64 => some A_ref04_Is
  | 65 => some A_ref03_Put
  | _ => none
noncomputable def Rt : Orc := RR tab
theorem rt_call {f : Nat} (af : AFunc) {ts : List TV} {r : Ans} (hf : tab f = some af) (hl : (ts.length == af.np && Nat.blt af.np 1000) = true) (k : Nat) (h : callL Rt k true af ts = some r) : Rt f ts = some r := RR_call af hf hl k h
set_option maxRecDepth 100000
theorem cf3 : compF Try.prog mds (livesBy Lv Tv 3) 3 Try.f3 = some A_law11_EraseTop := by kernel_rfl
theorem cf4 : compF Try.prog mds (livesBy Lv Tv 4) 4 Try.f4 = some A_law11_EraseAt := by kernel_rfl
theorem cf5 : compF Try.prog mds (livesBy Lv Tv 5) 5 Try.f5 = some A_law11_EraseSwaps := by kernel_rfl
theorem cf6 : compF Try.prog mds (livesBy Lv Tv 6) 6 Try.f6 = some A_law11_EraseAlike := by kernel_rfl
theorem cf7 : compF Try.prog mds (livesBy Lv Tv 7) 7 Try.f7 = some A_law11_of := by kernel_rfl
theorem cf8 : compF Try.prog mds (livesBy Lv Tv 8) 8 Try.f8 = some A_law11_light := by kernel_rfl
theorem cf9 : compF Try.prog mds (livesBy Lv Tv 9) 9 Try.f9 = some A_law11_lives := by kernel_rfl
theorem cf10 : compF Try.prog mds (livesBy Lv Tv 10) 10 Try.f10 = some A_erase_At := by kernel_rfl
theorem cf11 : compF Try.prog mds (livesBy Lv Tv 11) 11 Try.f11 = some A_level_Lattice_Top := by kernel_rfl
theorem cf12 : compF Try.prog mds (livesBy Lv Tv 12) 12 Try.f12 = some A_erase_Seen := by kernel_rfl
theorem cf13 : compF Try.prog mds (livesBy Lv Tv 13) 13 Try.f13 = some A_ref09_Size := by kernel_rfl
theorem cf14 : compF Try.prog mds (livesBy Lv Tv 14) 14 Try.f14 = some A_ref05_Same := by kernel_rfl
theorem cf15 : compF Try.prog mds (livesBy Lv Tv 15) 15 Try.f15 = some A_ref09_Strip := by kernel_rfl
theorem cf16 : compF Try.prog mds (livesBy Lv Tv 16) 16 Try.f16 = some A_ref11_Erase := by kernel_rfl
theorem cf17 : compF Try.prog mds (livesBy Lv Tv 17) 17 Try.f17 = some A_ref09_Same := by kernel_rfl
theorem cf18 : compF Try.prog mds (livesBy Lv Tv 18) 18 Try.f18 = some A_ref11_Seen := by kernel_rfl
theorem cf19 : compF Try.prog mds (livesBy Lv Tv 19) 19 Try.f19 = some A_erase_Alike := by kernel_rfl
theorem cf20 : compF Try.prog mds (livesBy Lv Tv 20) 20 Try.f20 = some A_erase_Swap := by kernel_rfl
theorem cf21 : compF Try.prog mds (livesBy Lv Tv 21) 21 Try.f21 = some A_ref11_Swap := by kernel_rfl
theorem cf22 : compF Try.prog mds (livesBy Lv Tv 22) 22 Try.f22 = some A_ref09_Bottom := by kernel_rfl
theorem cf23 : compF Try.prog mds (livesBy Lv Tv 23) 23 Try.f23 = some A_ref09_Is := by kernel_rfl
theorem cf24 : compF Try.prog mds (livesBy Lv Tv 24) 24 Try.f24 = some A_level_Lattice_Leq := by kernel_rfl
theorem cf25 : compF Try.prog mds (livesBy Lv Tv 25) 25 Try.f25 = some A_node_Same := by kernel_rfl
theorem cf26 : compF Try.prog mds (livesBy Lv Tv 26) 26 Try.f26 = some A_ref01_Sort := by kernel_rfl
theorem cf27 : compF Try.prog mds (livesBy Lv Tv 27) 27 Try.f27 = some A_level_New := by kernel_rfl
theorem cf28 : compF Try.prog mds (livesBy Lv Tv 28) 28 Try.f28 = some A_ref01_Table := by kernel_rfl
theorem cf29 : compF Try.prog mds (livesBy Lv Tv 29) 29 Try.f29 = some A_ref09_Light := by kernel_rfl
theorem cf30 : compF Try.prog mds (livesBy Lv Tv 30) 30 Try.f30 = some A_node_Array := by kernel_rfl
theorem cf31 : compF Try.prog mds (livesBy Lv Tv 31) 31 Try.f31 = some A_node_Mark := by kernel_rfl
theorem cf32 : compF Try.prog mds (livesBy Lv Tv 32) 32 Try.f32 = some A_erase_under := by kernel_rfl
theorem cf33 : compF Try.prog mds (livesBy Lv Tv 33) 33 Try.f33 = some A_level_Lattice_Bottom := by kernel_rfl
theorem cf34 : compF Try.prog mds (livesBy Lv Tv 34) 34 Try.f34 = some A_erase_count := by kernel_rfl
theorem cf35 : compF Try.prog mds (livesBy Lv Tv 35) 35 Try.f35 = some A_ref11_At := by kernel_rfl
theorem cf36 : compF Try.prog mds (livesBy Lv Tv 36) 36 Try.f36 = some A_erase_swap := by kernel_rfl
theorem cf37 : compF Try.prog mds (livesBy Lv Tv 37) 37 Try.f37 = some A_ref09_Join := by kernel_rfl
theorem cf38 : compF Try.prog mds (livesBy Lv Tv 38) 38 Try.f38 = some A_ref11_sees := by kernel_rfl
theorem cf39 : compF Try.prog mds (livesBy Lv Tv 39) 39 Try.f39 = some A_ref09_Deep := by kernel_rfl
theorem cf40 : compF Try.prog mds (livesBy Lv Tv 40) 40 Try.f40 = some A_ref09_Labels := by kernel_rfl
theorem cf41 : compF Try.prog mds (livesBy Lv Tv 41) 41 Try.f41 = some A_ref09_right := by kernel_rfl
theorem cf42 : compF Try.prog mds (livesBy Lv Tv 42) 42 Try.f42 = some A_ref09_shape := by kernel_rfl
theorem cf43 : compF Try.prog mds (livesBy Lv Tv 43) 43 Try.f43 = some A_level_Lattice_Is := by kernel_rfl
theorem cf44 : compF Try.prog mds (livesBy Lv Tv 44) 44 Try.f44 = some A_level_named := by kernel_rfl
theorem cf45 : compF Try.prog mds (livesBy Lv Tv 45) 45 Try.f45 = some A_level_laid := by kernel_rfl
theorem cf46 : compF Try.prog mds (livesBy Lv Tv 46) 46 Try.f46 = some A_level_closed := by kernel_rfl
theorem cf47 : compF Try.prog mds (livesBy Lv Tv 47) 47 Try.f47 = some A_level_twisted := by kernel_rfl
theorem cf48 : compF Try.prog mds (livesBy Lv Tv 48) 48 Try.f48 = some A_level_Lattice_fill := by kernel_rfl
theorem cf49 : compF Try.prog mds (livesBy Lv Tv 49) 49 Try.f49 = some A_ref09_Flat := by kernel_rfl
theorem cf50 : compF Try.prog mds (livesBy Lv Tv 50) 50 Try.f50 = some A_node_deep := by kernel_rfl
theorem cf51 : compF Try.prog mds (livesBy Lv Tv 51) 51 Try.f51 = some A_level_Lattice_Join := by kernel_rfl
theorem cf52 : compF Try.prog mds (livesBy Lv Tv 52) 52 Try.f52 = some A_erase_hole := by kernel_rfl
theorem cf53 : compF Try.prog mds (livesBy Lv Tv 53) 53 Try.f53 = some A_ref09_Top := by kernel_rfl
theorem cf54 : compF Try.prog mds (livesBy Lv Tv 54) 54 Try.f54 = some A_node_Raise := by kernel_rfl
theorem cf55 : compF Try.prog mds (livesBy Lv Tv 55) 55 Try.f55 = some A_ref01_Join := by kernel_rfl
theorem cf56 : compF Try.prog mds (livesBy Lv Tv 56) 56 Try.f56 = some A_ref05_Is := by kernel_rfl
theorem cf57 : compF Try.prog mds (livesBy Lv Tv 57) 57 Try.f57 = some A_level_Lattice_Size := by kernel_rfl
theorem cf58 : compF Try.prog mds (livesBy Lv Tv 58) 58 Try.f58 = some A_level_Name := by kernel_rfl
theorem cf59 : compF Try.prog mds (livesBy Lv Tv 59) 59 Try.f59 = some A_level_turned := by kernel_rfl
theorem cf60 : compF Try.prog mds (livesBy Lv Tv 60) 60 Try.f60 = some A_level_over := by kernel_rfl
theorem cf61 : compF Try.prog mds (livesBy Lv Tv 61) 61 Try.f61 = some A_node_join := by kernel_rfl
theorem cf62 : compF Try.prog mds (livesBy Lv Tv 62) 62 Try.f62 = some A_ref05_zero := by kernel_rfl
theorem cf63 : compF Try.prog mds (livesBy Lv Tv 63) 63 Try.f63 = some A_ref03_Signs := by kernel_rfl
theorem cf64 : compF Try.prog mds (livesBy Lv Tv 64) 64 Try.f64 = some A_ref04_Is := by kernel_rfl
theorem cf65 : compF Try.prog mds (livesBy Lv Tv 65) 65 Try.f65 = some A_ref03_Put := by kernel_rfl
theorem tab_ok : TabOK Try.prog mds (livesBy Lv Tv) tab := by
  intro f af h
  unfold tab at h
  split at h
  · cases h; exact ⟨Try.f3, by kernel_rfl, cf3⟩
  · cases h; exact ⟨Try.f4, by kernel_rfl, cf4⟩
  · cases h; exact ⟨Try.f5, by kernel_rfl, cf5⟩
  · cases h; exact ⟨Try.f6, by kernel_rfl, cf6⟩
  · cases h; exact ⟨Try.f7, by kernel_rfl, cf7⟩
  · cases h; exact ⟨Try.f8, by kernel_rfl, cf8⟩
  · cases h; exact ⟨Try.f9, by kernel_rfl, cf9⟩
  · cases h; exact ⟨Try.f10, by kernel_rfl, cf10⟩
  · cases h; exact ⟨Try.f11, by kernel_rfl, cf11⟩
  · cases h; exact ⟨Try.f12, by kernel_rfl, cf12⟩
  · cases h; exact ⟨Try.f13, by kernel_rfl, cf13⟩
  · cases h; exact ⟨Try.f14, by kernel_rfl, cf14⟩
  · cases h; exact ⟨Try.f15, by kernel_rfl, cf15⟩
  · cases h; exact ⟨Try.f16, by kernel_rfl, cf16⟩
  · cases h; exact ⟨Try.f17, by kernel_rfl, cf17⟩
  · cases h; exact ⟨Try.f18, by kernel_rfl, cf18⟩
  · cases h; exact ⟨Try.f19, by kernel_rfl, cf19⟩
  · cases h; exact ⟨Try.f20, by kernel_rfl, cf20⟩
  · cases h; exact ⟨Try.f21, by kernel_rfl, cf21⟩
  · cases h; exact ⟨Try.f22, by kernel_rfl, cf22⟩
  · cases h; exact ⟨Try.f23, by kernel_rfl, cf23⟩
  · cases h; exact ⟨Try.f24, by kernel_rfl, cf24⟩
  · cases h; exact ⟨Try.f25, by kernel_rfl, cf25⟩
  · cases h; exact ⟨Try.f26, by kernel_rfl, cf26⟩
  · cases h; exact ⟨Try.f27, by kernel_rfl, cf27⟩
  · cases h; exact ⟨Try.f28, by kernel_rfl, cf28⟩
  · cases h; exact ⟨Try.f29, by kernel_rfl, cf29⟩
  · cases h; exact ⟨Try.f30, by kernel_rfl, cf30⟩
  · cases h; exact ⟨Try.f31, by kernel_rfl, cf31⟩
  · cases h; exact ⟨Try.f32, by kernel_rfl, cf32⟩
  · cases h; exact ⟨Try.f33, by kernel_rfl, cf33⟩
  · cases h; exact ⟨Try.f34, by kernel_rfl, cf34⟩
  · cases h; exact ⟨Try.f35, by kernel_rfl, cf35⟩
  · cases h; exact ⟨Try.f36, by kernel_rfl, cf36⟩
  · cases h; exact ⟨Try.f37, by kernel_rfl, cf37⟩
  · cases h; exact ⟨Try.f38, by kernel_rfl, cf38⟩
  · cases h; exact ⟨Try.f39, by kernel_rfl, cf39⟩
  · cases h; exact ⟨Try.f40, by kernel_rfl, cf40⟩
  · cases h; exact ⟨Try.f41, by kernel_rfl, cf41⟩
  · cases h; exact ⟨Try.f42, by kernel_rfl, cf42⟩
  · cases h; exact ⟨Try.f43, by kernel_rfl, cf43⟩
  · cases h; exact ⟨Try.f44, by kernel_rfl, cf44⟩
  · cases h; exact ⟨Try.f45, by kernel_rfl, cf45⟩
  · cases h; exact ⟨Try.f46, by kernel_rfl, cf46⟩
  · cases h; exact ⟨Try.f47, by kernel_rfl, cf47⟩
  · cases h; exact ⟨Try.f48, by kernel_rfl, cf48⟩
  · cases h; exact ⟨Try.f49, by kernel_rfl, cf49⟩
  · cases h; exact ⟨Try.f50, by kernel_rfl, cf50⟩
  · cases h; exact ⟨Try.f51, by kernel_rfl, cf51⟩
  · cases h; exact ⟨Try.f52, by kernel_rfl, cf52⟩
  · cases h; exact ⟨Try.f53, by kernel_rfl, cf53⟩
  · cases h; exact ⟨Try.f54, by kernel_rfl, cf54⟩
  · cases h; exact ⟨Try.f55, by kernel_rfl, cf55⟩
  · cases h; exact ⟨Try.f56, by kernel_rfl, cf56⟩
  · cases h; exact ⟨Try.f57, by kernel_rfl, cf57⟩
  · cases h; exact ⟨Try.f58, by kernel_rfl, cf58⟩
  · cases h; exact ⟨Try.f59, by kernel_rfl, cf59⟩
  · cases h; exact ⟨Try.f60, by kernel_rfl, cf60⟩
  · cases h; exact ⟨Try.f61, by kernel_rfl, cf61⟩
  · cases h; exact ⟨Try.f62, by kernel_rfl, cf62⟩
  · cases h; exact ⟨Try.f63, by kernel_rfl, cf63⟩
  · cases h; exact ⟨Try.f64, by kernel_rfl, cf64⟩
  · cases h; exact ⟨Try.f65, by kernel_rfl, cf65⟩
  · cases h
end Go.Ab
