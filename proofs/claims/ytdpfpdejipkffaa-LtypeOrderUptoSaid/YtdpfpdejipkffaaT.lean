-- Written by a program of the session, out of the translation. Lean checks it.
import Derived.Test.YtdpfpdejipkffaaA1
import Derived.Test.YtdpfpdejipkffaaA2
import Derived.Test.YtdpfpdejipkffaaA3
import Derived.Test.YtdpfpdejipkffaaPrimClone
import Derived.Test.YtdpfpdejipkffaaPrimKeys
import Derived.Test.YtdpfpdejipkffaaProg
namespace Go.Ab
open Go.Proofs
noncomputable def tab : Nat → Option AFunc
  | 4 => some A_law25_LtypeFits
  | 5 => some A_law25_LtypeJoins
  | 6 => some A_law25_LtypeCuts
  | 8 => some A_law25_LtypeOrder
  | 9 => some A_ref25_Light
  | 10 => some A_law25_lives
  | 11 => some A_law25_of
  | 12 => some A_ltype_Plain
  | 13 => some A_ltype_Is
  | 14 => some A_ref25_Is
  | 15 => some A_law25_may
  | 16 => some A_ref09_Light
  | 17 => some A_ref09_Is
  | 18 => some A_ref25_Cut
  | 19 => some A_ref25_Whole
  | 20 => some A_ltype_Node
  | 21 => some A_ltype_Fits
  | 22 => some A_ref25_Fits
  | 23 => some A_ref25_Same
  | 24 => some A_ltype_Leq
  | 25 => some A_ref25_Leq
  | 26 => some A_ltype_Join
  | 27 => some A_ref25_Join
  | 28 => some A_ltype_All
  | 29 => some A_ref25_All
  | 30 => some A_ltype_Below
  | 31 => some A_ref25_Below
  | 32 => some A_ltype_Raise
  | 33 => some A_ref09_Join
  | 34 => some A_ltype_Of
  | 35 => some A_ref25_Of
  | 36 => some A_ltype_Items
  | 37 => some A_ref25_Items
  | 38 => some A_ltype_Cut
  | 39 => some A_level_Lattice_Leq
  | 40 => some A_ref25_Size
  | 41 => some A_ref25_flat
  | 42 => some A_level_New
  | 43 => some A_ref01_Sort
  | 44 => some A_ref01_Table
  | 45 => some A_ltype_is
  | 46 => some A_ref09_Size
  | 47 => some A_ref09_Flat
  | 48 => some A_ref09_Labels
  | 49 => some A_ref09_right
  | 50 => some A_ref09_shape
  | 51 => some A_ref09_Strip
  | 52 => some A_ref09_Bottom
  | 53 => some A_ref09_Deep
  | 54 => some A_ltype_least
  | 55 => some A_ltype_items
  | 56 => some A_slices_ContainsFunc___string_string_
  | 58 => some A_ltype_Leq_1
  | 59 => some A_ref25_Keys
  | 60 => some A_level_Lattice_Join
  | 61 => some A_ref01_Join
  | 62 => some A_slices_BinarySearch___string_string_
  | 64 => some A_level_Lattice_Is
  | 65 => some A_level_named
  | 66 => some A_level_laid
  | 67 => some A_level_closed
  | 68 => some A_level_twisted
  | 69 => some A_level_Lattice_fill
  | 70 => some A_ref05_Is
  | 71 => some A_level_Lattice_Bottom
  | 72 => some A_slices_IndexFunc___string_string_
  | 75 => some A_level_Lattice_Top
  | 76 => some A_cmp_Less_string_
  | 77 => some A_slices_isNaN_string_
  | 78 => some A_level_Lattice_Size
  | 79 => some A_level_Name
  | 80 => some A_level_turned
  | 81 => some A_level_over
  | 82 => some A_ref05_zero
  | 83 => some A_ref03_Signs
  | 84 => some A_ref04_Is
  | 87 => some A_cmp_isNaN_string_
  | 88 => some A_ref03_Put
  | 63 => some A_clone
  | 57 => some A_keys
  | _ => none
noncomputable def Rt : Orc := RR tab
theorem rt_call {f : Nat} (af : AFunc) {ts : List TV} {r : Ans} (hf : tab f = some af) (hl : (af.prim.isNone && (ts.length == af.np && Nat.blt af.np 1000)) = true) (k : Nat) (h : callL Rt k true af ts = some r) : Rt f ts = some r := RR_call af hf hl k h
theorem rt_prim {f : Nat} {af : AFunc} {p : List TV → Option Ans} {ts : List TV} {r : Ans} (hf : tab f = some af) (hp : af.prim = some p) (h : p ts = some r) : Rt f ts = some r := RR_prim hf hp h
set_option maxRecDepth 100000
theorem cf4 : compF Try.prog mds (livesBy Lv Tv 4) 4 Try.f4 = some A_law25_LtypeFits := by kernel_rfl
theorem cf5 : compF Try.prog mds (livesBy Lv Tv 5) 5 Try.f5 = some A_law25_LtypeJoins := by kernel_rfl
theorem cf6 : compF Try.prog mds (livesBy Lv Tv 6) 6 Try.f6 = some A_law25_LtypeCuts := by kernel_rfl
theorem cf8 : compF Try.prog mds (livesBy Lv Tv 8) 8 Try.f8 = some A_law25_LtypeOrder := by kernel_rfl
theorem cf9 : compF Try.prog mds (livesBy Lv Tv 9) 9 Try.f9 = some A_ref25_Light := by kernel_rfl
theorem cf10 : compF Try.prog mds (livesBy Lv Tv 10) 10 Try.f10 = some A_law25_lives := by kernel_rfl
theorem cf11 : compF Try.prog mds (livesBy Lv Tv 11) 11 Try.f11 = some A_law25_of := by kernel_rfl
theorem cf12 : compF Try.prog mds (livesBy Lv Tv 12) 12 Try.f12 = some A_ltype_Plain := by kernel_rfl
theorem cf13 : compF Try.prog mds (livesBy Lv Tv 13) 13 Try.f13 = some A_ltype_Is := by kernel_rfl
theorem cf14 : compF Try.prog mds (livesBy Lv Tv 14) 14 Try.f14 = some A_ref25_Is := by kernel_rfl
theorem cf15 : compF Try.prog mds (livesBy Lv Tv 15) 15 Try.f15 = some A_law25_may := by kernel_rfl
theorem cf16 : compF Try.prog mds (livesBy Lv Tv 16) 16 Try.f16 = some A_ref09_Light := by kernel_rfl
theorem cf17 : compF Try.prog mds (livesBy Lv Tv 17) 17 Try.f17 = some A_ref09_Is := by kernel_rfl
theorem cf18 : compF Try.prog mds (livesBy Lv Tv 18) 18 Try.f18 = some A_ref25_Cut := by kernel_rfl
theorem cf19 : compF Try.prog mds (livesBy Lv Tv 19) 19 Try.f19 = some A_ref25_Whole := by kernel_rfl
theorem cf20 : compF Try.prog mds (livesBy Lv Tv 20) 20 Try.f20 = some A_ltype_Node := by kernel_rfl
theorem cf21 : compF Try.prog mds (livesBy Lv Tv 21) 21 Try.f21 = some A_ltype_Fits := by kernel_rfl
theorem cf22 : compF Try.prog mds (livesBy Lv Tv 22) 22 Try.f22 = some A_ref25_Fits := by kernel_rfl
theorem cf23 : compF Try.prog mds (livesBy Lv Tv 23) 23 Try.f23 = some A_ref25_Same := by kernel_rfl
theorem cf24 : compF Try.prog mds (livesBy Lv Tv 24) 24 Try.f24 = some A_ltype_Leq := by kernel_rfl
theorem cf25 : compF Try.prog mds (livesBy Lv Tv 25) 25 Try.f25 = some A_ref25_Leq := by kernel_rfl
theorem cf26 : compF Try.prog mds (livesBy Lv Tv 26) 26 Try.f26 = some A_ltype_Join := by kernel_rfl
theorem cf27 : compF Try.prog mds (livesBy Lv Tv 27) 27 Try.f27 = some A_ref25_Join := by kernel_rfl
theorem cf28 : compF Try.prog mds (livesBy Lv Tv 28) 28 Try.f28 = some A_ltype_All := by kernel_rfl
theorem cf29 : compF Try.prog mds (livesBy Lv Tv 29) 29 Try.f29 = some A_ref25_All := by kernel_rfl
theorem cf30 : compF Try.prog mds (livesBy Lv Tv 30) 30 Try.f30 = some A_ltype_Below := by kernel_rfl
theorem cf31 : compF Try.prog mds (livesBy Lv Tv 31) 31 Try.f31 = some A_ref25_Below := by kernel_rfl
theorem cf32 : compF Try.prog mds (livesBy Lv Tv 32) 32 Try.f32 = some A_ltype_Raise := by kernel_rfl
theorem cf33 : compF Try.prog mds (livesBy Lv Tv 33) 33 Try.f33 = some A_ref09_Join := by kernel_rfl
theorem cf34 : compF Try.prog mds (livesBy Lv Tv 34) 34 Try.f34 = some A_ltype_Of := by kernel_rfl
theorem cf35 : compF Try.prog mds (livesBy Lv Tv 35) 35 Try.f35 = some A_ref25_Of := by kernel_rfl
theorem cf36 : compF Try.prog mds (livesBy Lv Tv 36) 36 Try.f36 = some A_ltype_Items := by kernel_rfl
theorem cf37 : compF Try.prog mds (livesBy Lv Tv 37) 37 Try.f37 = some A_ref25_Items := by kernel_rfl
theorem cf38 : compF Try.prog mds (livesBy Lv Tv 38) 38 Try.f38 = some A_ltype_Cut := by kernel_rfl
theorem cf39 : compF Try.prog mds (livesBy Lv Tv 39) 39 Try.f39 = some A_level_Lattice_Leq := by kernel_rfl
theorem cf40 : compF Try.prog mds (livesBy Lv Tv 40) 40 Try.f40 = some A_ref25_Size := by kernel_rfl
theorem cf41 : compF Try.prog mds (livesBy Lv Tv 41) 41 Try.f41 = some A_ref25_flat := by kernel_rfl
theorem cf42 : compF Try.prog mds (livesBy Lv Tv 42) 42 Try.f42 = some A_level_New := by kernel_rfl
theorem cf43 : compF Try.prog mds (livesBy Lv Tv 43) 43 Try.f43 = some A_ref01_Sort := by kernel_rfl
theorem cf44 : compF Try.prog mds (livesBy Lv Tv 44) 44 Try.f44 = some A_ref01_Table := by kernel_rfl
theorem cf45 : compF Try.prog mds (livesBy Lv Tv 45) 45 Try.f45 = some A_ltype_is := by kernel_rfl
theorem cf46 : compF Try.prog mds (livesBy Lv Tv 46) 46 Try.f46 = some A_ref09_Size := by kernel_rfl
theorem cf47 : compF Try.prog mds (livesBy Lv Tv 47) 47 Try.f47 = some A_ref09_Flat := by kernel_rfl
theorem cf48 : compF Try.prog mds (livesBy Lv Tv 48) 48 Try.f48 = some A_ref09_Labels := by kernel_rfl
theorem cf49 : compF Try.prog mds (livesBy Lv Tv 49) 49 Try.f49 = some A_ref09_right := by kernel_rfl
theorem cf50 : compF Try.prog mds (livesBy Lv Tv 50) 50 Try.f50 = some A_ref09_shape := by kernel_rfl
theorem cf51 : compF Try.prog mds (livesBy Lv Tv 51) 51 Try.f51 = some A_ref09_Strip := by kernel_rfl
theorem cf52 : compF Try.prog mds (livesBy Lv Tv 52) 52 Try.f52 = some A_ref09_Bottom := by kernel_rfl
theorem cf53 : compF Try.prog mds (livesBy Lv Tv 53) 53 Try.f53 = some A_ref09_Deep := by kernel_rfl
theorem cf54 : compF Try.prog mds (livesBy Lv Tv 54) 54 Try.f54 = some A_ltype_least := by kernel_rfl
theorem cf55 : compF Try.prog mds (livesBy Lv Tv 55) 55 Try.f55 = some A_ltype_items := by kernel_rfl
theorem cf56 : compF Try.prog mds (livesBy Lv Tv 56) 56 Try.f56 = some A_slices_ContainsFunc___string_string_ := by kernel_rfl
theorem cf58 : compF Try.prog mds (livesBy Lv Tv 58) 58 Try.f58 = some A_ltype_Leq_1 := by kernel_rfl
theorem cf59 : compF Try.prog mds (livesBy Lv Tv 59) 59 Try.f59 = some A_ref25_Keys := by kernel_rfl
theorem cf60 : compF Try.prog mds (livesBy Lv Tv 60) 60 Try.f60 = some A_level_Lattice_Join := by kernel_rfl
theorem cf61 : compF Try.prog mds (livesBy Lv Tv 61) 61 Try.f61 = some A_ref01_Join := by kernel_rfl
theorem cf62 : compF Try.prog mds (livesBy Lv Tv 62) 62 Try.f62 = some A_slices_BinarySearch___string_string_ := by kernel_rfl
theorem cf64 : compF Try.prog mds (livesBy Lv Tv 64) 64 Try.f64 = some A_level_Lattice_Is := by kernel_rfl
theorem cf65 : compF Try.prog mds (livesBy Lv Tv 65) 65 Try.f65 = some A_level_named := by kernel_rfl
theorem cf66 : compF Try.prog mds (livesBy Lv Tv 66) 66 Try.f66 = some A_level_laid := by kernel_rfl
theorem cf67 : compF Try.prog mds (livesBy Lv Tv 67) 67 Try.f67 = some A_level_closed := by kernel_rfl
theorem cf68 : compF Try.prog mds (livesBy Lv Tv 68) 68 Try.f68 = some A_level_twisted := by kernel_rfl
theorem cf69 : compF Try.prog mds (livesBy Lv Tv 69) 69 Try.f69 = some A_level_Lattice_fill := by kernel_rfl
theorem cf70 : compF Try.prog mds (livesBy Lv Tv 70) 70 Try.f70 = some A_ref05_Is := by kernel_rfl
theorem cf71 : compF Try.prog mds (livesBy Lv Tv 71) 71 Try.f71 = some A_level_Lattice_Bottom := by kernel_rfl
theorem cf72 : compF Try.prog mds (livesBy Lv Tv 72) 72 Try.f72 = some A_slices_IndexFunc___string_string_ := by kernel_rfl
theorem cf75 : compF Try.prog mds (livesBy Lv Tv 75) 75 Try.f75 = some A_level_Lattice_Top := by kernel_rfl
theorem cf76 : compF Try.prog mds (livesBy Lv Tv 76) 76 Try.f76 = some A_cmp_Less_string_ := by kernel_rfl
theorem cf77 : compF Try.prog mds (livesBy Lv Tv 77) 77 Try.f77 = some A_slices_isNaN_string_ := by kernel_rfl
theorem cf78 : compF Try.prog mds (livesBy Lv Tv 78) 78 Try.f78 = some A_level_Lattice_Size := by kernel_rfl
theorem cf79 : compF Try.prog mds (livesBy Lv Tv 79) 79 Try.f79 = some A_level_Name := by kernel_rfl
theorem cf80 : compF Try.prog mds (livesBy Lv Tv 80) 80 Try.f80 = some A_level_turned := by kernel_rfl
theorem cf81 : compF Try.prog mds (livesBy Lv Tv 81) 81 Try.f81 = some A_level_over := by kernel_rfl
theorem cf82 : compF Try.prog mds (livesBy Lv Tv 82) 82 Try.f82 = some A_ref05_zero := by kernel_rfl
theorem cf83 : compF Try.prog mds (livesBy Lv Tv 83) 83 Try.f83 = some A_ref03_Signs := by kernel_rfl
theorem cf84 : compF Try.prog mds (livesBy Lv Tv 84) 84 Try.f84 = some A_ref04_Is := by kernel_rfl
theorem cf87 : compF Try.prog mds (livesBy Lv Tv 87) 87 Try.f87 = some A_cmp_isNaN_string_ := by kernel_rfl
theorem cf88 : compF Try.prog mds (livesBy Lv Tv 88) 88 Try.f88 = some A_ref03_Put := by kernel_rfl
theorem tab_ok : TabOK Try.prog mds (livesBy Lv Tv) tab := by
  intro f af h
  unfold tab at h
  split at h
  · cases h; exact .inl ⟨Try.f4, by kernel_rfl, cf4⟩
  · cases h; exact .inl ⟨Try.f5, by kernel_rfl, cf5⟩
  · cases h; exact .inl ⟨Try.f6, by kernel_rfl, cf6⟩
  · cases h; exact .inl ⟨Try.f8, by kernel_rfl, cf8⟩
  · cases h; exact .inl ⟨Try.f9, by kernel_rfl, cf9⟩
  · cases h; exact .inl ⟨Try.f10, by kernel_rfl, cf10⟩
  · cases h; exact .inl ⟨Try.f11, by kernel_rfl, cf11⟩
  · cases h; exact .inl ⟨Try.f12, by kernel_rfl, cf12⟩
  · cases h; exact .inl ⟨Try.f13, by kernel_rfl, cf13⟩
  · cases h; exact .inl ⟨Try.f14, by kernel_rfl, cf14⟩
  · cases h; exact .inl ⟨Try.f15, by kernel_rfl, cf15⟩
  · cases h; exact .inl ⟨Try.f16, by kernel_rfl, cf16⟩
  · cases h; exact .inl ⟨Try.f17, by kernel_rfl, cf17⟩
  · cases h; exact .inl ⟨Try.f18, by kernel_rfl, cf18⟩
  · cases h; exact .inl ⟨Try.f19, by kernel_rfl, cf19⟩
  · cases h; exact .inl ⟨Try.f20, by kernel_rfl, cf20⟩
  · cases h; exact .inl ⟨Try.f21, by kernel_rfl, cf21⟩
  · cases h; exact .inl ⟨Try.f22, by kernel_rfl, cf22⟩
  · cases h; exact .inl ⟨Try.f23, by kernel_rfl, cf23⟩
  · cases h; exact .inl ⟨Try.f24, by kernel_rfl, cf24⟩
  · cases h; exact .inl ⟨Try.f25, by kernel_rfl, cf25⟩
  · cases h; exact .inl ⟨Try.f26, by kernel_rfl, cf26⟩
  · cases h; exact .inl ⟨Try.f27, by kernel_rfl, cf27⟩
  · cases h; exact .inl ⟨Try.f28, by kernel_rfl, cf28⟩
  · cases h; exact .inl ⟨Try.f29, by kernel_rfl, cf29⟩
  · cases h; exact .inl ⟨Try.f30, by kernel_rfl, cf30⟩
  · cases h; exact .inl ⟨Try.f31, by kernel_rfl, cf31⟩
  · cases h; exact .inl ⟨Try.f32, by kernel_rfl, cf32⟩
  · cases h; exact .inl ⟨Try.f33, by kernel_rfl, cf33⟩
  · cases h; exact .inl ⟨Try.f34, by kernel_rfl, cf34⟩
  · cases h; exact .inl ⟨Try.f35, by kernel_rfl, cf35⟩
  · cases h; exact .inl ⟨Try.f36, by kernel_rfl, cf36⟩
  · cases h; exact .inl ⟨Try.f37, by kernel_rfl, cf37⟩
  · cases h; exact .inl ⟨Try.f38, by kernel_rfl, cf38⟩
  · cases h; exact .inl ⟨Try.f39, by kernel_rfl, cf39⟩
  · cases h; exact .inl ⟨Try.f40, by kernel_rfl, cf40⟩
  · cases h; exact .inl ⟨Try.f41, by kernel_rfl, cf41⟩
  · cases h; exact .inl ⟨Try.f42, by kernel_rfl, cf42⟩
  · cases h; exact .inl ⟨Try.f43, by kernel_rfl, cf43⟩
  · cases h; exact .inl ⟨Try.f44, by kernel_rfl, cf44⟩
  · cases h; exact .inl ⟨Try.f45, by kernel_rfl, cf45⟩
  · cases h; exact .inl ⟨Try.f46, by kernel_rfl, cf46⟩
  · cases h; exact .inl ⟨Try.f47, by kernel_rfl, cf47⟩
  · cases h; exact .inl ⟨Try.f48, by kernel_rfl, cf48⟩
  · cases h; exact .inl ⟨Try.f49, by kernel_rfl, cf49⟩
  · cases h; exact .inl ⟨Try.f50, by kernel_rfl, cf50⟩
  · cases h; exact .inl ⟨Try.f51, by kernel_rfl, cf51⟩
  · cases h; exact .inl ⟨Try.f52, by kernel_rfl, cf52⟩
  · cases h; exact .inl ⟨Try.f53, by kernel_rfl, cf53⟩
  · cases h; exact .inl ⟨Try.f54, by kernel_rfl, cf54⟩
  · cases h; exact .inl ⟨Try.f55, by kernel_rfl, cf55⟩
  · cases h; exact .inl ⟨Try.f56, by kernel_rfl, cf56⟩
  · cases h; exact .inl ⟨Try.f58, by kernel_rfl, cf58⟩
  · cases h; exact .inl ⟨Try.f59, by kernel_rfl, cf59⟩
  · cases h; exact .inl ⟨Try.f60, by kernel_rfl, cf60⟩
  · cases h; exact .inl ⟨Try.f61, by kernel_rfl, cf61⟩
  · cases h; exact .inl ⟨Try.f62, by kernel_rfl, cf62⟩
  · cases h; exact .inl ⟨Try.f64, by kernel_rfl, cf64⟩
  · cases h; exact .inl ⟨Try.f65, by kernel_rfl, cf65⟩
  · cases h; exact .inl ⟨Try.f66, by kernel_rfl, cf66⟩
  · cases h; exact .inl ⟨Try.f67, by kernel_rfl, cf67⟩
  · cases h; exact .inl ⟨Try.f68, by kernel_rfl, cf68⟩
  · cases h; exact .inl ⟨Try.f69, by kernel_rfl, cf69⟩
  · cases h; exact .inl ⟨Try.f70, by kernel_rfl, cf70⟩
  · cases h; exact .inl ⟨Try.f71, by kernel_rfl, cf71⟩
  · cases h; exact .inl ⟨Try.f72, by kernel_rfl, cf72⟩
  · cases h; exact .inl ⟨Try.f75, by kernel_rfl, cf75⟩
  · cases h; exact .inl ⟨Try.f76, by kernel_rfl, cf76⟩
  · cases h; exact .inl ⟨Try.f77, by kernel_rfl, cf77⟩
  · cases h; exact .inl ⟨Try.f78, by kernel_rfl, cf78⟩
  · cases h; exact .inl ⟨Try.f79, by kernel_rfl, cf79⟩
  · cases h; exact .inl ⟨Try.f80, by kernel_rfl, cf80⟩
  · cases h; exact .inl ⟨Try.f81, by kernel_rfl, cf81⟩
  · cases h; exact .inl ⟨Try.f82, by kernel_rfl, cf82⟩
  · cases h; exact .inl ⟨Try.f83, by kernel_rfl, cf83⟩
  · cases h; exact .inl ⟨Try.f84, by kernel_rfl, cf84⟩
  · cases h; exact .inl ⟨Try.f87, by kernel_rfl, cf87⟩
  · cases h; exact .inl ⟨Try.f88, by kernel_rfl, cf88⟩
  · cases h; exact .inr ⟨Try.f63, _, rfl, by kernel_rfl, by kernel_rfl, by kernel_rfl, clone_prim⟩
  · cases h; exact .inr ⟨Try.f57, _, rfl, by kernel_rfl, by kernel_rfl, by kernel_rfl, keys_prim⟩
  · cases h
end Go.Ab
