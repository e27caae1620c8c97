-- Written by a program of the session, out of the translation. Lean checks it.
import Derived.Test.YtgljpoefbphhdaaDoorK3
import Derived.KernelRfl
import Derived.Test.YtgljpoefbphhdaaDoorProg
/-! The functions' numbers, and what is live. -/
namespace Go.Ab
open Go.Proofs
abbrev N_law08_WordsBack : Nat := 4
abbrev N_law08_lives : Nat := 5
abbrev N_words_Upper : Nat := 7
abbrev N_words_Lower : Nat := 8
abbrev N_words_Has : Nat := 9
abbrev N_words_Trim : Nat := 12
abbrev N_words_Split : Nat := 13
abbrev N_words_Join : Nat := 14
abbrev N_words_turned : Nat := 15
abbrev N_words_Upper_1 : Nat := 16
abbrev N_words_between : Nat := 17
abbrev N_words_Lower_1 : Nat := 18
abbrev N_strings_Trim : Nat := 22
abbrev N_words_signs : Nat := 23
abbrev N_strings_Cut : Nat := 24
abbrev N_strings_trimLeftByte : Nat := 29
abbrev N_strings_trimRightByte : Nat := 30
abbrev N_strings_makeASCIISet : Nat := 31
abbrev N_strings_trimLeftASCII : Nat := 32
abbrev N_strings_trimRightASCII : Nat := 33
abbrev N_strings_trimLeftUnicode : Nat := 34
abbrev N_strings_trimRightUnicode : Nat := 35
abbrev N_utf_Signs : Nat := 36
abbrev N_utf_First : Nat := 37
abbrev N_internal_stringslite_Cut : Nat := 38
abbrev N_strings_asciiSet_contains : Nat := 46
abbrev N_utf_Valid : Nat := 50
abbrev N_utf_size : Nat := 58
abbrev N_utf_tail : Nat := 63
abbrev N_strings_Index : Nat := 19
abbrev N_internal_stringslite_Index : Nat := 26
abbrev N_strings_Join : Nat := 25
def Lv : Nat → List (Nat × List Nat × List Nat)
  | 3 => [(5, [0, 1, 5, 6], [0, 1, 5]), (12, [0, 1, 5, 7, 8, 9], [0, 1, 4, 5]), (23, [0, 1, 5, 13, 14], [0, 1, 5, 13, 14]), (25, [0, 1, 5, 13, 14], [0, 1, 5, 13, 14])]
  | 4 => [(8, [0, 1, 5, 9], [0, 4])]
  | 13 => [(4, [0, 1, 6], [4, 5])]
  | 14 => [(3, [0, 1, 6, 9, 10, 11], [0, 1, 4, 5])]
  | 15 => [(3, [1, 5, 10, 11, 12], [5])]
  | 23 => [(5, [0, 4, 5], [5])]
  | 29 => [(1, [0, 1], [0])]
  | 30 => [(1, [0, 1], [0])]
  | 31 => [(2, [0, 2, 4], [2, 3])]
  | 32 => [(1, [0, 1], [0])]
  | 33 => [(1, [0, 1], [0])]
  | 34 => [(1, [0, 1], [0])]
  | 35 => [(1, [0, 1], [0])]
  | 36 => [(5, [3, 8], [3])]
  | 37 => [(5, [0, 1, 5, 15], [0, 4])]
  | 50 => [(1, [0], [2])]
  | 63 => [(4, [0, 1, 9], [8])]
  | _ => []
def Tv : Nat → List (Nat × List Nat × List Nat)
  | 3 => [(3, [0, 1], [0]), (11, [0, 1, 5, 7, 8], [0]), (18, [0, 1, 5, 7, 8, 9, 10, 11, 12], [0]), (20, [0, 1, 5, 7, 8, 9, 11, 12], [0])]
  | 4 => [(3, [0, 1], [0]), (7, [0, 1, 5], [0]), (10, [0, 1, 5, 9], [0])]
  | 14 => [(7, [0, 1, 6, 8, 9, 10, 11], [0])]
  | 22 => [(3, [0, 1], [0]), (4, [0, 1, 21], [0]), (5, [0, 1], [0])]
  | 30 => [(2, [0, 1], [0])]
  | 35 => [(5, [0, 1, 5, 6], [0])]
  | 37 => [(3, [0, 1], [0])]
  | 47 => [(2, [0, 10], [0])]
  | 58 => [(5, [0, 3, 9], [0]), (7, [0, 3, 20], [0]), (8, [0, 3, 20], [0]), (9, [0, 3, 20], [0]), (11, [0, 3, 47], [0]), (12, [0, 3, 47], [0])]
  | 63 => [(3, [0, 1], [0])]
  | _ => []
noncomputable def mds : Nat → List Mode × List Mode
  | 3 => ([.fz, .fz], [.fz])
  | 4 => ([.fz, .fz], [.fz])
  | 5 => ([], [.fz])
  | 6 => ([.fz, .fz, .fz], [.fz])
  | 7 => ([.fz], [.fz])
  | 8 => ([.fz], [.fz])
  | 9 => ([.fz, .fz], [.fz])
  | 10 => ([.fz, .fz], [.fz])
  | 11 => ([.fz, .fz], [.fz])
  | 12 => ([.fz], [.fz])
  | 13 => ([.fz, .fz], [.fz, .fz])
  | 14 => ([.fz, .fz], [.fz, .fz])
  | 15 => ([.fz, .fz], [.fz])
  | 16 => ([.fz], [.fz])
  | 17 => ([.fz, .fz, .fz], [.fz])
  | 18 => ([.fz], [.fz])
  | 20 => ([.fz, .fz], [.fz])
  | 21 => ([.fz, .fz], [.fz])
  | 22 => ([.fz, .fz], [.fz])
  | 23 => ([.fz], [.fz, .fz])
  | 24 => ([.fz, .fz], [.fz, .fz, .fz])
  | 27 => ([.fz, .fz], [.fz])
  | 28 => ([.fz, .fz], [.fz])
  | 29 => ([.fz, .fz], [.fz])
  | 30 => ([.fz, .fz], [.fz])
  | 31 => ([.fz], [.fz, .fz])
  | 32 => ([.fz, .fz], [.fz])
  | 33 => ([.fz, .fz], [.fz])
  | 34 => ([.fz, .fz], [.fz])
  | 35 => ([.fz, .fz], [.fz])
  | 36 => ([.fz], [.fz])
  | 37 => ([.fz, .fz], [.fz])
  | 38 => ([.fz, .fz], [.fz, .fz, .fz])
  | 46 => ([.fz, .fz], [.fz])
  | 47 => ([.fz], [.fz, .fz])
  | 48 => ([.fz, .fz], [.fz])
  | 50 => ([.fz], [.fz])
  | 58 => ([.fz], [.fz])
  | 63 => ([.fz, .fz, .fz, .fz], [.fz])
  | 19 => ([.fz, .fz], [.fz])
  | 26 => ([.fz, .fz], [.fz])
  | 25 => ([.fz, .fz], [.fz])
  | 49 => (List.replicate Tryd.f49.params.size .fz, List.replicate Tryd.f49.results.size .fz)
  | 55 => (List.replicate Tryd.f55.params.size .fz, List.replicate Tryd.f55.results.size .fz)
  | 56 => (List.replicate Tryd.f56.params.size .fz, List.replicate Tryd.f56.results.size .fz)
  | _ => ([], [])
/-- The code of a function, told. -/
noncomputable def codeOf (f : Nat) (fn : Func) : ACode := match compF Tryd.prog mds (livesBy Lv Tv f) f fn with
  | some a => a.body
  | none => .skip
def ACode.at : ACode → List Nat → ACode
  | c, [] => c
  | .seq a _, 0 :: p => a.at p
  | .seq _ b, _ :: p => b.at p
  | .cond _ a _, 0 :: p => a.at p
  | .cond _ _ b, _ :: p => b.at p
  | .block _ c, _ :: p => c.at p
  | .loop _ _ c, _ :: p => c.at p
  | .trim _ c, _ :: p => c.at p
  | c, _ => c
end Go.Ab
