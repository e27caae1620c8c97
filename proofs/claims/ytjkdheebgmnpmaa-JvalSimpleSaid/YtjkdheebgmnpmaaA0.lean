-- Written by a program of the session, out of the translation. Lean checks it.
import Derived.Test.YtjkdheebgmnpmaaK2
import Derived.KernelRfl
/-! The functions' numbers. -/
namespace Go.Ab
abbrev N_law05_JvalTurns : Nat := 3
abbrev N_law05_JvalPuts : Nat := 4
abbrev N_law05_JvalSimple : Nat := 6
abbrev N_law05_JvalIs : Nat := 7
abbrev N_ref05_Light : Nat := 8
abbrev N_ref05_Is : Nat := 9
abbrev N_law05_lives : Nat := 10
abbrev N_jval_Put : Nat := 11
abbrev N_ref05_Same : Nat := 12
abbrev N_jval_Get : Nat := 13
abbrev N_ref05_Size : Nat := 14
abbrev N_jval_Int : Nat := 16
abbrev N_jval_Text : Nat := 17
abbrev N_jval_Wrong : Nat := 18
abbrev N_jval_List : Nat := 19
abbrev N_jval_Name : Nat := 20
abbrev N_jval_Truth : Nat := 21
abbrev N_jval_Is : Nat := 22
abbrev N_jval_Same : Nat := 23
abbrev N_ref05_Flat : Nat := 24
abbrev N_ref05_zero : Nat := 25
abbrev N_ref03_Signs : Nat := 26
abbrev N_ref04_Is : Nat := 27
abbrev N_jval_place : Nat := 28
abbrev N_num_Int : Nat := 29
abbrev N_jval_is : Nat := 30
abbrev N_ref03_Put : Nat := 31
abbrev N_num_Make : Nat := 32
abbrev N_jval_bare : Nat := 33
abbrev N_num_Is : Nat := 34
abbrev N_utf_Valid : Nat := 35
abbrev N_jval_items : Nat := 36
abbrev N_jval_rising : Nat := 37
abbrev N_utf_size : Nat := 38
abbrev N_utf_tail : Nat := 39
end Go.Ab
