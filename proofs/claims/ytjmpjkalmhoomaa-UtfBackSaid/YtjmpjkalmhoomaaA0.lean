-- Written by a program of the session, out of the translation. Lean checks it.
import Derived.Test.YtjmpjkalmhoomaaK3
import Derived.KernelRfl
import Derived.Test.YtjmpjkalmhoomaaProg
/-! The functions' numbers, and what is live. -/
namespace Go.Ab
open Go.Proofs
abbrev N_law03_UtfReads : Nat := 5
abbrev N_law03_UtfEscapes : Nat := 6
abbrev N_law03_UtfBack : Nat := 7
abbrev N_law03_lives : Nat := 8
abbrev N_ref03_Signs : Nat := 10
abbrev N_ref03_Put : Nat := 12
abbrev N_utf_Valid : Nat := 13
abbrev N_utf_Signs : Nat := 14
abbrev N_utf_First : Nat := 15
abbrev N_ref03_Unquote : Nat := 17
abbrev N_law03_hex : Nat := 18
abbrev N_utf_quoted : Nat := 20
abbrev N_utf_size : Nat := 22
abbrev N_ref03_simple : Nat := 24
abbrev N_ref03_four : Nat := 25
abbrev N_utf_tail : Nat := 27
abbrev N_ref03_digit : Nat := 30
abbrev N_utf_Quote : Nat := 9
abbrev N_utf_Unquote : Nat := 16
def Lv : Nat → List (Nat × List Nat × List Nat)
  | 6 => [(6, [0, 3, 4, 5], [0, 2, 3, 4])]
  | 7 => [(7, [0, 1, 5, 7], [0, 1, 4, 5])]
  | 10 => [(3, [0, 4, 5], [2, 3, 4]), (15, [0, 4, 5, 7, 8, 9], [0, 2, 3, 4, 5, 7, 8])]
  | 13 => [(1, [0], [2])]
  | 14 => [(5, [3, 8], [3])]
  | 15 => [(5, [0, 1, 5, 15], [0, 4])]
  | 17 => [(7, [0, 4, 5, 6], [2, 3, 4, 5])]
  | 25 => [(3, [0, 1, 5, 6], [4, 5])]
  | 27 => [(4, [0, 1, 9], [8])]
  | _ => []
def Tv : Nat → List (Nat × List Nat × List Nat)
  | 6 => [(11, [0, 3, 4, 5, 6, 38], [0]), (14, [0, 3, 4, 5, 6], [0])]
  | 7 => [(3, [0, 1], [0])]
  | 10 => [(7, [0, 4, 5, 6, 7, 8, 25], [0]), (12, [0, 4, 5, 6, 7, 8], [0]), (14, [0, 4, 5, 7, 8], [0]), (20, [0, 4, 5, 7, 8, 9, 10], [0]), (23, [0, 4, 5, 7, 8], [0])]
  | 15 => [(3, [0, 1], [0])]
  | 17 => [(3, [0], [0]), (11, [0, 4, 5, 6, 7], [0]), (27, [0, 4, 5, 6, 9, 112], [0]), (31, [0, 4, 5, 6, 9, 10, 124], [0]), (33, [0, 4, 5, 6, 9], [0]), (35, [0, 4, 5, 6, 9], [0]), (39, [4], [0])]
  | 22 => [(5, [0, 3, 9], [0]), (7, [0, 3, 20], [0]), (8, [0, 3, 20], [0]), (9, [0, 3, 20], [0]), (11, [0, 3, 47], [0]), (12, [0, 3, 47], [0])]
  | 24 => [(5, [0, 3, 4], [0])]
  | 25 => [(7, [0, 1, 5, 6], [0])]
  | 27 => [(3, [0, 1], [0])]
  | 30 => [(2, [0, 8], [0]), (3, [0], [0]), (4, [0, 17], [0]), (5, [0], [0]), (6, [0, 26], [0])]
  | _ => []
noncomputable def mds : Nat → List Mode × List Mode
  | 5 => ([.fz], [.fz])
  | 6 => ([.fz], [.fz])
  | 7 => ([.fz, .fz], [.fz])
  | 8 => ([], [.fz])
  | 10 => ([.fz], [.fz, .fz])
  | 12 => ([.fz], [.fz])
  | 13 => ([.fz], [.fz])
  | 14 => ([.fz], [.fz])
  | 15 => ([.fz, .fz], [.fz])
  | 17 => ([.fz], [.fz, .fz])
  | 18 => ([.fz], [.fz])
  | 20 => ([.fz], [.fz])
  | 22 => ([.fz], [.fz])
  | 24 => ([.fz], [.fz])
  | 25 => ([.fz, .fz], [.fz])
  | 27 => ([.fz, .fz, .fz, .fz], [.fz])
  | 30 => ([.fz], [.fz])
  | 9 => ([.fz], [.fz, .fz])
  | 16 => ([.fz], [.fz, .fz])
  | _ => ([], [])
/-- The code of a function, told. -/
noncomputable def codeOf (f : Nat) (fn : Func) : ACode := match compF Try.prog mds (livesBy Lv Tv f) f fn with
  | some a => a.body
  | none => .skip
def ACode.at : ACode → List Nat → ACode
  | c, [] => c
  | .seq a _, 0 :: p => a.at p
  | .seq _ b, _ :: p => b.at p
  | .cond _ a _, 0 :: p => a.at p
  | .cond _ _ b, _ :: p => b.at p
  | .block _ c, _ :: p => c.at p
  | .loop _ _ c, _ :: p => c.at p
  | .trim _ c, _ :: p => c.at p
  | c, _ => c
end Go.Ab
