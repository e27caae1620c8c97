-- Written by a program of the session, out of the translation. Lean checks it.
import Derived.Test.YtpgngeagdphhfaaK2
import Derived.KernelRfl
/-! The functions' numbers. -/
namespace Go.Ab
abbrev N_law01_LevelMakes : Nat := 3
abbrev N_law01_LevelTables : Nat := 4
abbrev N_law01_LevelLaws : Nat := 5
abbrev N_law01_LevelFollows : Nat := 6
abbrev N_law01_LevelNames : Nat := 7
abbrev N_law01_light : Nat := 8
abbrev N_law01_lives : Nat := 9
abbrev N_level_New : Nat := 10
abbrev N_ref01_Check : Nat := 11
abbrev N_level_Name : Nat := 12
abbrev N_ref01_Name : Nat := 13
abbrev N_ref01_Table : Nat := 14
abbrev N_level_Lattice_Size : Nat := 15
abbrev N_level_Lattice_Leq : Nat := 16
abbrev N_level_Lattice_Join : Nat := 17
abbrev N_ref01_Join : Nat := 18
abbrev N_level_Lattice_Meet : Nat := 19
abbrev N_ref01_Meet : Nat := 20
abbrev N_level_Lattice_Bottom : Nat := 21
abbrev N_level_Lattice_Top : Nat := 22
abbrev N_level_Lattice_Find : Nat := 23
abbrev N_level_Lattice_Is : Nat := 24
abbrev N_level_Lattice_Text : Nat := 25
abbrev N_ref01_Sort : Nat := 26
abbrev N_level_named : Nat := 27
abbrev N_level_laid : Nat := 28
abbrev N_level_closed : Nat := 29
abbrev N_level_twisted : Nat := 30
abbrev N_level_Lattice_fill : Nat := 31
abbrev N_level_turned : Nat := 32
abbrev N_level_over : Nat := 33
end Go.Ab
