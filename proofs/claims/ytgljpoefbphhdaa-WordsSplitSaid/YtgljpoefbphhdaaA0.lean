-- Written by a program of the session, out of the translation. Lean checks it.
import Derived.Test.YtgljpoefbphhdaaK3
import Derived.KernelRfl
import Derived.Test.YtgljpoefbphhdaaProg
/-! The functions' numbers, and what is live. -/
namespace Go.Ab
open Go.Proofs
abbrev N_law08_WordsSplit : Nat := 3
abbrev N_law08_WordsParts : Nat := 4
abbrev N_law08_WordsJoin : Nat := 5
abbrev N_law08_lives : Nat := 6
abbrev N_ref03_Signs : Nat := 7
abbrev N_ref03_Put : Nat := 8
abbrev N_law08_at : Nat := 9
abbrev N_words_Split : Nat := 10
abbrev N_words_Has : Nat := 11
abbrev N_words_Join : Nat := 12
abbrev N_words_Times : Nat := 13
abbrev N_words_signs : Nat := 14
abbrev N_strings_Cut : Nat := 15
abbrev N_utf_Signs : Nat := 19
abbrev N_utf_First : Nat := 20
abbrev N_internal_stringslite_Cut : Nat := 21
abbrev N_utf_Valid : Nat := 29
abbrev N_utf_size : Nat := 39
abbrev N_utf_tail : Nat := 44
abbrev N_strings_Index : Nat := 16
abbrev N_internal_stringslite_Index : Nat := 22
abbrev N_strings_Join : Nat := 17
abbrev N_strings_Repeat : Nat := 18
def Lv : Nat → List (Nat × List Nat × List Nat)
  | 3 => [(7, [0, 1, 5, 6, 7, 8], [0, 1, 5]), (12, [0, 1, 5, 9, 10], [0, 1, 5, 9]), (25, [5, 11, 13], [4])]
  | 4 => [(4, [0, 1, 5], [0, 1, 4]), (15, [0, 8, 10], [4])]
  | 5 => [(5, [0, 1, 2, 7, 8], [0, 1, 2, 6, 7]), (19, [1, 2, 12, 13, 14, 15], [12, 13, 14])]
  | 7 => [(3, [0, 4, 5], [2, 3, 4]), (15, [0, 4, 5, 7, 8, 9], [0, 2, 3, 4, 5, 7, 8])]
  | 10 => [(4, [0, 1, 6], [4, 5])]
  | 12 => [(3, [0, 1, 6, 9, 10, 11], [0, 1, 4, 5])]
  | 14 => [(5, [0, 4, 5], [5])]
  | 19 => [(5, [3, 8], [3])]
  | 20 => [(5, [0, 1, 5, 15], [0, 4])]
  | 29 => [(1, [0], [2])]
  | 44 => [(4, [0, 1, 9], [8])]
  | _ => []
def Tv : Nat → List (Nat × List Nat × List Nat)
  | 3 => [(3, [0, 1], [0]), (9, [0, 1, 5, 6, 7, 8], [0]), (19, [0, 1, 5], [0]), (24, [5, 11], [0])]
  | 4 => [(3, [0, 1], [0]), (14, [0, 8], [0])]
  | 5 => [(3, [0, 1, 2], [0]), (11, [0, 1, 2, 7, 8], [0]), (16, [1, 2], [0]), (21, [1, 2, 12, 13, 14, 15], [0])]
  | 7 => [(7, [0, 4, 5, 6, 7, 8, 25], [0]), (12, [0, 4, 5, 6, 7, 8], [0]), (14, [0, 4, 5, 7, 8], [0]), (20, [0, 4, 5, 7, 8, 9, 10], [0]), (23, [0, 4, 5, 7, 8], [0])]
  | 12 => [(7, [0, 1, 6, 8, 9, 10, 11], [0])]
  | 13 => [(3, [0, 1], [0])]
  | 20 => [(3, [0, 1], [0])]
  | 39 => [(5, [0, 3, 9], [0]), (7, [0, 3, 20], [0]), (8, [0, 3, 20], [0]), (9, [0, 3, 20], [0]), (11, [0, 3, 47], [0]), (12, [0, 3, 47], [0])]
  | 44 => [(3, [0, 1], [0])]
  | _ => []
noncomputable def mds : Nat → List Mode × List Mode
  | 3 => ([.fz, .fz], [.fz])
  | 4 => ([.fz, .fz], [.fz])
  | 5 => ([.fz, .fz, .fz], [.fz])
  | 6 => ([], [.fz])
  | 7 => ([.fz], [.fz, .fz])
  | 8 => ([.fz], [.fz])
  | 9 => ([.fz, .fz, .fz], [.fz])
  | 10 => ([.fz, .fz], [.fz, .fz])
  | 11 => ([.fz, .fz], [.fz])
  | 12 => ([.fz, .fz], [.fz, .fz])
  | 13 => ([.fz, .fz], [.fz, .fz])
  | 14 => ([.fz], [.fz, .fz])
  | 15 => ([.fz, .fz], [.fz, .fz, .fz])
  | 19 => ([.fz], [.fz])
  | 20 => ([.fz, .fz], [.fz])
  | 21 => ([.fz, .fz], [.fz, .fz, .fz])
  | 29 => ([.fz], [.fz])
  | 39 => ([.fz], [.fz])
  | 44 => ([.fz, .fz, .fz, .fz], [.fz])
  | 16 => ([.fz, .fz], [.fz])
  | 22 => ([.fz, .fz], [.fz])
  | 17 => ([.fz, .fz], [.fz])
  | 18 => ([.fz, .fz], [.fz])
  | _ => ([], [])
/-- The code of a function, told. -/
noncomputable def codeOf (f : Nat) (fn : Func) : ACode := match compF Try.prog mds (livesBy Lv Tv f) f fn with
  | some a => a.body
  | none => .skip
def ACode.at : ACode → List Nat → ACode
  | c, [] => c
  | .seq a _, 0 :: p => a.at p
  | .seq _ b, _ :: p => b.at p
  | .cond _ a _, 0 :: p => a.at p
  | .cond _ _ b, _ :: p => b.at p
  | .block _ c, _ :: p => c.at p
  | .loop _ _ c, _ :: p => c.at p
  | .trim _ c, _ :: p => c.at p
  | c, _ => c
end Go.Ab
