-- Written by a program of the session, out of the translation. Lean checks it.
import Derived.Test.YtppkdbgjflnibaaK2
import Derived.KernelRfl
/-! The functions' numbers. -/
namespace Go.Ab
abbrev N_law09_NodeRaises : Nat := 3
abbrev N_law09_NodeCounts : Nat := 4
abbrev N_law09_NodeIs : Nat := 5
abbrev N_law09_of : Nat := 6
abbrev N_ref09_Light : Nat := 7
abbrev N_ref09_Is : Nat := 8
abbrev N_law09_lives : Nat := 9
abbrev N_node_Raise : Nat := 10
abbrev N_node_Same : Nat := 11
abbrev N_level_Lattice_Join : Nat := 12
abbrev N_level_Lattice_Bottom : Nat := 13
abbrev N_level_Lattice_Leq : Nat := 14
abbrev N_node_Item : Nat := 15
abbrev N_ref09_Join : Nat := 16
abbrev N_node_Is : Nat := 17
abbrev N_ref09_Same : Nat := 18
abbrev N_ref01_Sort : Nat := 19
abbrev N_level_New : Nat := 20
abbrev N_ref01_Table : Nat := 21
abbrev N_ref09_Size : Nat := 22
abbrev N_ref09_Flat : Nat := 23
abbrev N_ref09_Labels : Nat := 24
abbrev N_ref09_right : Nat := 25
abbrev N_ref09_shape : Nat := 26
abbrev N_ref09_Strip : Nat := 27
abbrev N_node_Array : Nat := 28
abbrev N_node_Mark : Nat := 29
abbrev N_level_Lattice_Is : Nat := 30
abbrev N_level_Lattice_Top : Nat := 31
abbrev N_ref01_Join : Nat := 32
abbrev N_node_fits : Nat := 33
abbrev N_node_deep : Nat := 34
abbrev N_level_named : Nat := 35
abbrev N_level_laid : Nat := 36
abbrev N_level_closed : Nat := 37
abbrev N_level_twisted : Nat := 38
abbrev N_level_Lattice_fill : Nat := 39
abbrev N_ref09_Deep : Nat := 40
abbrev N_ref05_Is : Nat := 41
abbrev N_level_Lattice_Size : Nat := 42
abbrev N_node_bare : Nat := 43
abbrev N_num_Is : Nat := 44
abbrev N_utf_Valid : Nat := 45
abbrev N_node_rising : Nat := 46
abbrev N_node_join : Nat := 47
abbrev N_level_Name : Nat := 48
abbrev N_level_turned : Nat := 49
abbrev N_level_over : Nat := 50
abbrev N_ref05_zero : Nat := 51
abbrev N_ref03_Signs : Nat := 52
abbrev N_ref04_Is : Nat := 53
abbrev N_utf_size : Nat := 54
abbrev N_ref03_Put : Nat := 55
abbrev N_utf_tail : Nat := 56
end Go.Ab
