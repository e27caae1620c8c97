-- Written by a program of the session, out of the translation. Lean checks it.
import Derived.Test.YtpkhkbihmplhcaaK2
import Derived.KernelRfl
/-! The functions' numbers. -/
namespace Go.Ab
abbrev N_law23_MeterAmple : Nat := 3
abbrev N_law23_MeterNew : Nat := 4
abbrev N_law23_MeterRuns : Nat := 5
abbrev N_law23_MeterRises : Nat := 6
abbrev N_law23_of : Nat := 7
abbrev N_law23_lives : Nat := 8
abbrev N_meter_New : Nat := 9
abbrev N_meter_Meter_Spend : Nat := 10
abbrev N_meter_Meter_Left : Nat := 11
abbrev N_meter_Meter_End : Nat := 12
abbrev N_meter_Meter_Raise : Nat := 13
abbrev N_meter_Meter_Tell : Nat := 14
abbrev N_meter_Meter_Label : Nat := 15
abbrev N_ref09_Bottom : Nat := 16
abbrev N_ref09_Top : Nat := 17
abbrev N_ref09_Join : Nat := 18
abbrev N_level_Lattice_Leq : Nat := 19
abbrev N_ref01_Sort : Nat := 20
abbrev N_level_New : Nat := 21
abbrev N_ref01_Table : Nat := 22
abbrev N_level_Lattice_Is : Nat := 23
abbrev N_level_Lattice_Bottom : Nat := 24
abbrev N_meter_Meter_done : Nat := 25
abbrev N_meter_Meter_stop : Nat := 26
abbrev N_level_Lattice_Join : Nat := 27
abbrev N_meter_asked_over : Nat := 28
abbrev N_ref01_Join : Nat := 29
abbrev N_level_named : Nat := 30
abbrev N_level_laid : Nat := 31
abbrev N_level_closed : Nat := 32
abbrev N_level_twisted : Nat := 33
abbrev N_level_Lattice_fill : Nat := 34
abbrev N_level_Lattice_Size : Nat := 35
abbrev N_level_Lattice_Top : Nat := 36
abbrev N_level_Name : Nat := 37
abbrev N_level_turned : Nat := 38
abbrev N_level_over : Nat := 39
end Go.Ab
