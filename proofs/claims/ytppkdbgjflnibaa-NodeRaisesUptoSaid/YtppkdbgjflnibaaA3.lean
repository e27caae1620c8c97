-- Written by a program of the session, out of the translation. Lean checks it.
import Derived.Test.YtppkdbgjflnibaaA0
namespace Go.Ab
set_option linter.unusedVariables false
set_option maxRecDepth 100000
/-! keyhole/keyholeref09.Strip -/
def A_ref09_Strip_b1 : ACode := .seq (.seq (.region [⟨(some 20), .mov (.t 4), none, some (.int .i64)⟩,
   ⟨(some 21), .fadr 6 (.t 1), none, none⟩,
   ⟨(some 22), .load 1 false (.t 21), none, none⟩,
   ⟨(some 23), .len (.sl 8 true) (.t 22), none, some (.int .i64)⟩,
   ⟨(some 24), .binI .lss .i64 (.t 20) (.t 23), none, some .bool⟩])
  (.cond (.t 24) (.skip)
   (.exit 0)))
 (.seq (.block 1 (.draws [⟨⟨(some 27), .fadr 4 (.t 3), none, none⟩, []⟩,
    ⟨⟨(some 28), .load 1 false (.t 27), none, none⟩, [0]⟩,
    ⟨⟨(some 29), .fadr 6 (.t 1), none, none⟩, []⟩,
    ⟨⟨(some 30), .load 1 false (.t 29), none, none⟩, [2]⟩,
    ⟨⟨(some 31), .mov (.t 4), none, some (.int .i64)⟩, []⟩,
    ⟨⟨(some 32), .iadr (.sl 8 true) (.t 30) (.t 31), none, none⟩, [3, 4]⟩,
    ⟨⟨(some 33), .load 8 true (.t 32), none, none⟩, [5]⟩,
    ⟨⟨(some 34), .call N_ref09_Strip [((.t 33), .fz)] [.fz], none, none⟩, [6]⟩,
    ⟨⟨(some 35), .buildSl 6 true 1 (.ag [.int .i64 0, .int .i64 0, .int .i64 0, .str ⟨#[]⟩, .sl [], .sl []]) [(0, (.t 34))], none, none⟩, [7]⟩,
    ⟨⟨(some 36), .append 6 true 88 false (.t 28) (.t 35), none, none⟩, [1, 8, 7]⟩,
    ⟨⟨(some 37), .fadr 4 (.t 3), none, none⟩, [0, 1, 2, 3, 4, 5, 6, 7, 8, 9]⟩,
    ⟨⟨none, .store 1 false (.t 37) (.t 36), none, none⟩, [10, 9, 9, 0, 1, 2, 3, 4, 5, 6, 7, 8, 9]⟩]))
  (.region [⟨(some 25), .mov (.t 4), none, some (.int .i64)⟩,
   ⟨(some 26), .binI .add .i64 (.t 25) (.c (.fz (.int .i64 1))), none, some (.int .i64)⟩,
   ⟨(some 4), .mov (.t 26), none, some (.int .i64)⟩]))
def A_ref09_Strip_s1 : ACode := .seq (.region [⟨(some 38), .load 6 true (.t 3), none, none⟩,
  ⟨none, .store 6 true (.t 2) (.t 38), none, none⟩])
 (.ret)
def A_ref09_Strip : AFunc := ⟨1, [(.cell 2 6 true, .fz)], .seq (.region [⟨(some 1), .box 8 true (.t 0), none, none⟩,
  ⟨(some 2), .alloc 6 true (.ag [.fz (.int .i64 0), .fz (.int .i64 0), .fz (.int .i64 0), .fz (.str ⟨#[]⟩), .nils, .nils]), none, none⟩])
 (.seq (.region [⟨(some 3), .alloc 6 true (.ag [.fz (.int .i64 0), .fz (.int .i64 0), .fz (.int .i64 0), .fz (.str ⟨#[]⟩), .nils, .nils]), none, none⟩])
  (.seq (.region [⟨(some 5), .fadr 2 (.t 1), none, none⟩,
    ⟨(some 6), .load 1 false (.t 5), none, some (.int .i64)⟩,
    ⟨(some 7), .fadr 0 (.t 3), none, none⟩,
    ⟨none, .store 1 false (.t 7) (.t 6), none, none⟩])
   (.seq (.region [⟨(some 8), .fadr 3 (.t 1), none, none⟩,
     ⟨(some 9), .load 2 true (.t 8), none, none⟩,
     ⟨(some 10), .fadr 1 (.t 3), none, none⟩,
     ⟨none, .store 2 true (.t 10) (.t 9), none, none⟩])
    (.seq (.region [⟨(some 11), .fadr 5 (.t 1), none, none⟩,
      ⟨(some 12), .load 1 false (.t 11), none, some .str⟩,
      ⟨(some 13), .fadr 3 (.t 3), none, none⟩,
      ⟨none, .store 1 false (.t 13) (.t 12), none, none⟩])
     (.seq (.region [⟨(some 14), .fadr 5 (.t 3), none, none⟩,
       ⟨(some 15), .load 1 false (.t 14), none, none⟩,
       ⟨(some 16), .fadr 7 (.t 1), none, none⟩,
       ⟨(some 17), .load 1 false (.t 16), none, none⟩,
       ⟨(some 18), .append 1 false 16 false (.t 15) (.t 17), none, none⟩,
       ⟨(some 19), .fadr 5 (.t 3), none, none⟩,
       ⟨none, .store 1 false (.t 19) (.t 18), none, none⟩])
      (.seq (.seq (.region [⟨(some 4), .mov (.c (.fz (.int .i64 0))), none, some (.int .i64)⟩])
        (.block 0 (.loop [1, 2, 3, 4] [2, 3] A_ref09_Strip_b1)))
       A_ref09_Strip_s1))))))⟩
def K_ref09_Strip_1 (R : Orc) (k : Nat) (w : Bool) : AExit → St → Option Ans := (kBlk 0 (kSeq R k w [] A_ref09_Strip_s1 (kFin R [(.cell 2 6 true, .fz)] [])))
def L_ref09_Strip_1_0 (R : Orc) (k : Nat) (w : Bool) (n : Nat) (x4 : Int) (h4096_0 : Int) (h4096_1 : Int) (h4096_2 : Int) (h4096_3 : Int) (h4096_4 : Int) (h4096_5 : ByteArray) (h4096_6 : List FV) (h4096_7 : List FV) (h4097_0 : Int) (h4097_1 : Int) (h4097_2 : Int) (h4097_3 : ByteArray) (h4098_0 : Int) (h4098_1 : Int) (h4098_2 : Int) (h4098_3 : ByteArray) := loopL R k w [] [1, 2, 3, 4] [2, 3] A_ref09_Strip_b1 n ⟨[(1, .ptr 4096 0 0), (2, .ptr 4097 0 0), (3, .ptr 4098 0 0), (4, .fz (FV.int .i64 x4))], [(4095, .dead), (4096, .var 8 true (.fz (FV.ag [(FV.int .i64 h4096_0), (FV.int .i64 h4096_1), (FV.int .i64 h4096_2), (FV.int .i64 h4096_3), (FV.int .i64 h4096_4), (FV.str h4096_5), (FV.sl h4096_6), (FV.sl h4096_7)]))), (4097, .var 6 true (.ag [.fz (FV.int .i64 h4097_0), .fz (FV.int .i64 h4097_1), .fz (FV.int .i64 h4097_2), .fz (FV.str h4097_3), .nils, .nils])), (4098, .var 6 true (.ag [.fz (FV.int .i64 h4098_0), .fz (FV.int .i64 h4098_1), .fz (FV.int .i64 h4098_2), .fz (FV.str h4098_3), .nils, .nils]))]⟩
def L_ref09_Strip_1_1 (R : Orc) (k : Nat) (w : Bool) (n : Nat) (x4 : Int) (h4096_0 : Int) (h4096_1 : Int) (h4096_2 : Int) (h4096_3 : Int) (h4096_4 : Int) (h4096_5 : ByteArray) (h4096_6 : List FV) (h4096_7 : List FV) (h4097_0 : Int) (h4097_1 : Int) (h4097_2 : Int) (h4097_3 : ByteArray) (h4098_0 : Int) (h4098_1 : Int) (h4098_2 : Int) (h4098_3 : ByteArray) (h4099 : List FV) := loopL R k w [] [1, 2, 3, 4] [2, 3] A_ref09_Strip_b1 n ⟨[(1, .ptr 4096 0 0), (2, .ptr 4097 0 0), (3, .ptr 4098 0 0), (4, .fz (FV.int .i64 x4))], [(4095, .dead), (4096, .var 8 true (.fz (FV.ag [(FV.int .i64 h4096_0), (FV.int .i64 h4096_1), (FV.int .i64 h4096_2), (FV.int .i64 h4096_3), (FV.int .i64 h4096_4), (FV.str h4096_5), (FV.sl h4096_6), (FV.sl h4096_7)]))), (4097, .var 6 true (.ag [.fz (FV.int .i64 h4097_0), .fz (FV.int .i64 h4097_1), .fz (FV.int .i64 h4097_2), .fz (FV.str h4097_3), .nils, .nils])), (4098, .var 6 true (.ag [.fz (FV.int .i64 h4098_0), .fz (FV.int .i64 h4098_1), .fz (FV.int .i64 h4098_2), .fz (FV.str h4098_3), .nils, .rw 4099])), (4099, .row 1 false h4099)]⟩
def L_ref09_Strip_1_2 (R : Orc) (k : Nat) (w : Bool) (n : Nat) (x4 : Int) (h4096_0 : Int) (h4096_1 : Int) (h4096_2 : Int) (h4096_3 : Int) (h4096_4 : Int) (h4096_5 : ByteArray) (h4096_6 : List FV) (h4096_7 : List FV) (h4097_0 : Int) (h4097_1 : Int) (h4097_2 : Int) (h4097_3 : ByteArray) (h4098_0 : Int) (h4098_1 : Int) (h4098_2 : Int) (h4098_3 : ByteArray) (h4099 : List FV) := loopL R k w [] [1, 2, 3, 4] [2, 3] A_ref09_Strip_b1 n ⟨[(1, .ptr 4096 0 0), (2, .ptr 4097 0 0), (3, .ptr 4098 0 0), (4, .fz (FV.int .i64 x4))], [(4095, .dead), (4096, .var 8 true (.fz (FV.ag [(FV.int .i64 h4096_0), (FV.int .i64 h4096_1), (FV.int .i64 h4096_2), (FV.int .i64 h4096_3), (FV.int .i64 h4096_4), (FV.str h4096_5), (FV.sl h4096_6), (FV.sl h4096_7)]))), (4097, .var 6 true (.ag [.fz (FV.int .i64 h4097_0), .fz (FV.int .i64 h4097_1), .fz (FV.int .i64 h4097_2), .fz (FV.str h4097_3), .nils, .nils])), (4098, .var 6 true (.ag [.fz (FV.int .i64 h4098_0), .fz (FV.int .i64 h4098_1), .fz (FV.int .i64 h4098_2), .fz (FV.str h4098_3), .rw 4099, .nils])), (4099, .row 6 true h4099)]⟩
def X_ref09_Strip_1_0 (h4096_0 : Int) (h4096_1 : Int) (h4096_2 : Int) (h4096_3 : ByteArray) (h4097_0 : Int) (h4097_1 : Int) (h4097_2 : Int) (h4097_3 : ByteArray) : St := ⟨[(2, .ptr 4096 0 0), (3, .ptr 4097 0 0)], [(4095, .dead), (4096, .var 6 true (.ag [.fz (FV.int .i64 h4096_0), .fz (FV.int .i64 h4096_1), .fz (FV.int .i64 h4096_2), .fz (FV.str h4096_3), .nils, .nils])), (4097, .var 6 true (.ag [.fz (FV.int .i64 h4097_0), .fz (FV.int .i64 h4097_1), .fz (FV.int .i64 h4097_2), .fz (FV.str h4097_3), .nils, .nils]))]⟩
def L_ref09_Strip_1_3 (R : Orc) (k : Nat) (w : Bool) (n : Nat) (x4 : Int) (h4096_0 : Int) (h4096_1 : Int) (h4096_2 : Int) (h4096_3 : Int) (h4096_4 : Int) (h4096_5 : ByteArray) (h4096_6 : List FV) (h4096_7 : List FV) (h4097_0 : Int) (h4097_1 : Int) (h4097_2 : Int) (h4097_3 : ByteArray) (h4098_0 : Int) (h4098_1 : Int) (h4098_2 : Int) (h4098_3 : ByteArray) (h4099 : List FV) (h4100 : List FV) := loopL R k w [] [1, 2, 3, 4] [2, 3] A_ref09_Strip_b1 n ⟨[(1, .ptr 4096 0 0), (2, .ptr 4097 0 0), (3, .ptr 4098 0 0), (4, .fz (FV.int .i64 x4))], [(4095, .dead), (4096, .var 8 true (.fz (FV.ag [(FV.int .i64 h4096_0), (FV.int .i64 h4096_1), (FV.int .i64 h4096_2), (FV.int .i64 h4096_3), (FV.int .i64 h4096_4), (FV.str h4096_5), (FV.sl h4096_6), (FV.sl h4096_7)]))), (4097, .var 6 true (.ag [.fz (FV.int .i64 h4097_0), .fz (FV.int .i64 h4097_1), .fz (FV.int .i64 h4097_2), .fz (FV.str h4097_3), .nils, .nils])), (4098, .var 6 true (.ag [.fz (FV.int .i64 h4098_0), .fz (FV.int .i64 h4098_1), .fz (FV.int .i64 h4098_2), .fz (FV.str h4098_3), .rw 4099, .rw 4100])), (4099, .row 6 true h4099), (4100, .row 1 false h4100)]⟩
def X_ref09_Strip_1_1 (h4096_0 : Int) (h4096_1 : Int) (h4096_2 : Int) (h4096_3 : ByteArray) (h4097_0 : Int) (h4097_1 : Int) (h4097_2 : Int) (h4097_3 : ByteArray) (h4098 : List FV) : St := ⟨[(2, .ptr 4096 0 0), (3, .ptr 4097 0 0)], [(4095, .dead), (4096, .var 6 true (.ag [.fz (FV.int .i64 h4096_0), .fz (FV.int .i64 h4096_1), .fz (FV.int .i64 h4096_2), .fz (FV.str h4096_3), .nils, .nils])), (4097, .var 6 true (.ag [.fz (FV.int .i64 h4097_0), .fz (FV.int .i64 h4097_1), .fz (FV.int .i64 h4097_2), .fz (FV.str h4097_3), .nils, .rw 4098])), (4098, .row 1 false h4098)]⟩
def X_ref09_Strip_1_2 (h4096_0 : Int) (h4096_1 : Int) (h4096_2 : Int) (h4096_3 : ByteArray) (h4097_0 : Int) (h4097_1 : Int) (h4097_2 : Int) (h4097_3 : ByteArray) (h4098 : List FV) : St := ⟨[(2, .ptr 4096 0 0), (3, .ptr 4097 0 0)], [(4095, .dead), (4096, .var 6 true (.ag [.fz (FV.int .i64 h4096_0), .fz (FV.int .i64 h4096_1), .fz (FV.int .i64 h4096_2), .fz (FV.str h4096_3), .nils, .nils])), (4097, .var 6 true (.ag [.fz (FV.int .i64 h4097_0), .fz (FV.int .i64 h4097_1), .fz (FV.int .i64 h4097_2), .fz (FV.str h4097_3), .rw 4098, .nils])), (4098, .row 6 true h4098)]⟩
def X_ref09_Strip_1_3 (h4096_0 : Int) (h4096_1 : Int) (h4096_2 : Int) (h4096_3 : ByteArray) (h4097_0 : Int) (h4097_1 : Int) (h4097_2 : Int) (h4097_3 : ByteArray) (h4098 : List FV) (h4099 : List FV) : St := ⟨[(2, .ptr 4096 0 0), (3, .ptr 4097 0 0)], [(4095, .dead), (4096, .var 6 true (.ag [.fz (FV.int .i64 h4096_0), .fz (FV.int .i64 h4096_1), .fz (FV.int .i64 h4096_2), .fz (FV.str h4096_3), .nils, .nils])), (4097, .var 6 true (.ag [.fz (FV.int .i64 h4097_0), .fz (FV.int .i64 h4097_1), .fz (FV.int .i64 h4097_2), .fz (FV.str h4097_3), .rw 4098, .rw 4099])), (4098, .row 6 true h4098), (4099, .row 1 false h4099)]⟩
theorem E_ref09_Strip (R : Orc) (k : Nat) (w : Bool) (a0_0 : Int) (a0_1 : Int) (a0_2 : Int) (a0_3_0 : Int) (a0_3_1 : Int) (a0_4 : ByteArray) (a0_5 : List FV) (a0_6 : List FV) : callL R k w A_ref09_Strip [.fz (FV.ag [(FV.int .i64 a0_0), (FV.int .i64 a0_1), (FV.int .i64 a0_2), (FV.int .i64 a0_3_0), (FV.int .i64 a0_3_1), (FV.str a0_4), (FV.sl a0_5), (FV.sl a0_6)])] = when (List.all a0_6 (FV.fits 1 false)) (when (decide (((0 : Nat) + List.length a0_6) * 16 ≤ roomy) && decide ((0 : Nat) + List.length a0_6 ≤ roomy)) (ifB (List.isEmpty a0_6)
  (onL (L_ref09_Strip_1_0 R k w k 0 a0_0 a0_1 a0_2 a0_3_0 a0_3_1 a0_4 a0_5 a0_6 0 0 0 (⟨#[]⟩ : ByteArray) a0_2 a0_3_0 a0_3_1 a0_4) (K_ref09_Strip_1 R k w))
  (onL (L_ref09_Strip_1_1 R k w k 0 a0_0 a0_1 a0_2 a0_3_0 a0_3_1 a0_4 a0_5 a0_6 0 0 0 (⟨#[]⟩ : ByteArray) a0_2 a0_3_0 a0_3_1 a0_4 a0_6) (K_ref09_Strip_1 R k w)))) := by kernel_rfl
theorem L_ref09_Strip_1_0_eq (R : Orc) (k : Nat) (w : Bool) (n : Nat) (x4 : Int) (h4096_0 : Int) (h4096_1 : Int) (h4096_2 : Int) (h4096_3 : Int) (h4096_4 : Int) (h4096_5 : ByteArray) (h4096_6 : List FV) (h4096_7 : List FV) (h4097_0 : Int) (h4097_1 : Int) (h4097_2 : Int) (h4097_3 : ByteArray) (h4098_0 : Int) (h4098_1 : Int) (h4098_2 : Int) (h4098_3 : ByteArray) : L_ref09_Strip_1_0 R k w (n + 1) x4 h4096_0 h4096_1 h4096_2 h4096_3 h4096_4 h4096_5 h4096_6 h4096_7 h4097_0 h4097_1 h4097_2 h4097_3 h4098_0 h4098_1 h4098_2 h4098_3 = ifB (decide (x4 < (List.length h4096_6 : Int)))
  (when ((decide (0 ≤ x4)) && (decide (x4 < (List.length h4096_6 : Int)))) (when (FV.fits 8 true (List.getD h4096_6 (Int.toNat x4) FV.nilp)) (onR (R N_ref09_Strip [.fz (List.getD h4096_6 (Int.toNat x4) FV.nilp)]) fun r0 => when (List.isEmpty r0.2 && allF [.fz] r0.1) (when (((FV.fits 6 true (TV.toF (List.getD r0.1 0 TV.em))) && true) && true) (when (decide (((0 : Nat) + List.length [(TV.toF (List.getD r0.1 0 TV.em))]) * 88 ≤ roomy) && decide ((0 : Nat) + List.length [(TV.toF (List.getD r0.1 0 TV.em))] ≤ roomy)) (L_ref09_Strip_1_2 R k w n (IntKind.wrap .i64 (x4 + 1)) h4096_0 h4096_1 h4096_2 h4096_3 h4096_4 h4096_5 h4096_6 h4096_7 h4097_0 h4097_1 h4097_2 h4097_3 h4098_0 h4098_1 h4098_2 h4098_3 [(TV.toF (List.getD r0.1 0 TV.em))]))))))
  (some ((.exit 0), X_ref09_Strip_1_0 h4097_0 h4097_1 h4097_2 h4097_3 h4098_0 h4098_1 h4098_2 h4098_3)) := by kernel_rfl
theorem L_ref09_Strip_1_1_eq (R : Orc) (k : Nat) (w : Bool) (n : Nat) (x4 : Int) (h4096_0 : Int) (h4096_1 : Int) (h4096_2 : Int) (h4096_3 : Int) (h4096_4 : Int) (h4096_5 : ByteArray) (h4096_6 : List FV) (h4096_7 : List FV) (h4097_0 : Int) (h4097_1 : Int) (h4097_2 : Int) (h4097_3 : ByteArray) (h4098_0 : Int) (h4098_1 : Int) (h4098_2 : Int) (h4098_3 : ByteArray) (h4099 : List FV) : L_ref09_Strip_1_1 R k w (n + 1) x4 h4096_0 h4096_1 h4096_2 h4096_3 h4096_4 h4096_5 h4096_6 h4096_7 h4097_0 h4097_1 h4097_2 h4097_3 h4098_0 h4098_1 h4098_2 h4098_3 h4099 = ifB (decide (x4 < (List.length h4096_6 : Int)))
  (when ((decide (0 ≤ x4)) && (decide (x4 < (List.length h4096_6 : Int)))) (when (FV.fits 8 true (List.getD h4096_6 (Int.toNat x4) FV.nilp)) (onR (R N_ref09_Strip [.fz (List.getD h4096_6 (Int.toNat x4) FV.nilp)]) fun r1 => when (List.isEmpty r1.2 && allF [.fz] r1.1) (when (((FV.fits 6 true (TV.toF (List.getD r1.1 0 TV.em))) && true) && true) (when (decide (((0 : Nat) + List.length [(TV.toF (List.getD r1.1 0 TV.em))]) * 88 ≤ roomy) && decide ((0 : Nat) + List.length [(TV.toF (List.getD r1.1 0 TV.em))] ≤ roomy)) (L_ref09_Strip_1_3 R k w n (IntKind.wrap .i64 (x4 + 1)) h4096_0 h4096_1 h4096_2 h4096_3 h4096_4 h4096_5 h4096_6 h4096_7 h4097_0 h4097_1 h4097_2 h4097_3 h4098_0 h4098_1 h4098_2 h4098_3 [(TV.toF (List.getD r1.1 0 TV.em))] h4099))))))
  (some ((.exit 0), X_ref09_Strip_1_1 h4097_0 h4097_1 h4097_2 h4097_3 h4098_0 h4098_1 h4098_2 h4098_3 h4099)) := by kernel_rfl
theorem L_ref09_Strip_1_2_eq (R : Orc) (k : Nat) (w : Bool) (n : Nat) (x4 : Int) (h4096_0 : Int) (h4096_1 : Int) (h4096_2 : Int) (h4096_3 : Int) (h4096_4 : Int) (h4096_5 : ByteArray) (h4096_6 : List FV) (h4096_7 : List FV) (h4097_0 : Int) (h4097_1 : Int) (h4097_2 : Int) (h4097_3 : ByteArray) (h4098_0 : Int) (h4098_1 : Int) (h4098_2 : Int) (h4098_3 : ByteArray) (h4099 : List FV) : L_ref09_Strip_1_2 R k w (n + 1) x4 h4096_0 h4096_1 h4096_2 h4096_3 h4096_4 h4096_5 h4096_6 h4096_7 h4097_0 h4097_1 h4097_2 h4097_3 h4098_0 h4098_1 h4098_2 h4098_3 h4099 = ifB (decide (x4 < (List.length h4096_6 : Int)))
  (when ((decide (0 ≤ x4)) && (decide (x4 < (List.length h4096_6 : Int)))) (when (FV.fits 8 true (List.getD h4096_6 (Int.toNat x4) FV.nilp)) (onR (R N_ref09_Strip [.fz (List.getD h4096_6 (Int.toNat x4) FV.nilp)]) fun r2 => when (List.isEmpty r2.2 && allF [.fz] r2.1) (when (((FV.fits 6 true (TV.toF (List.getD r2.1 0 TV.em))) && true) && true) (when (decide ((List.length h4099 + List.length [(TV.toF (List.getD r2.1 0 TV.em))]) * 88 ≤ roomy) && decide (List.length h4099 + List.length [(TV.toF (List.getD r2.1 0 TV.em))] ≤ roomy)) (L_ref09_Strip_1_2 R k w n (IntKind.wrap .i64 (x4 + 1)) h4096_0 h4096_1 h4096_2 h4096_3 h4096_4 h4096_5 h4096_6 h4096_7 h4097_0 h4097_1 h4097_2 h4097_3 h4098_0 h4098_1 h4098_2 h4098_3 (h4099 ++ [(TV.toF (List.getD r2.1 0 TV.em))])))))))
  (some ((.exit 0), X_ref09_Strip_1_2 h4097_0 h4097_1 h4097_2 h4097_3 h4098_0 h4098_1 h4098_2 h4098_3 h4099)) := by kernel_rfl
theorem X_ref09_Strip_1_0_eq (R : Orc) (k : Nat) (w : Bool) (h4096_0 : Int) (h4096_1 : Int) (h4096_2 : Int) (h4096_3 : ByteArray) (h4097_0 : Int) (h4097_1 : Int) (h4097_2 : Int) (h4097_3 : ByteArray) : K_ref09_Strip_1 R k w (.exit 0) (X_ref09_Strip_1_0 h4096_0 h4096_1 h4096_2 h4096_3 h4097_0 h4097_1 h4097_2 h4097_3) = some ([.fz (FV.ag [(FV.int .i64 h4097_0), (FV.int .i64 h4097_1), (FV.int .i64 h4097_2), (FV.str h4097_3), (FV.sl []), (FV.sl [])])], []) := by kernel_rfl
theorem L_ref09_Strip_1_3_eq (R : Orc) (k : Nat) (w : Bool) (n : Nat) (x4 : Int) (h4096_0 : Int) (h4096_1 : Int) (h4096_2 : Int) (h4096_3 : Int) (h4096_4 : Int) (h4096_5 : ByteArray) (h4096_6 : List FV) (h4096_7 : List FV) (h4097_0 : Int) (h4097_1 : Int) (h4097_2 : Int) (h4097_3 : ByteArray) (h4098_0 : Int) (h4098_1 : Int) (h4098_2 : Int) (h4098_3 : ByteArray) (h4099 : List FV) (h4100 : List FV) : L_ref09_Strip_1_3 R k w (n + 1) x4 h4096_0 h4096_1 h4096_2 h4096_3 h4096_4 h4096_5 h4096_6 h4096_7 h4097_0 h4097_1 h4097_2 h4097_3 h4098_0 h4098_1 h4098_2 h4098_3 h4099 h4100 = ifB (decide (x4 < (List.length h4096_6 : Int)))
  (when ((decide (0 ≤ x4)) && (decide (x4 < (List.length h4096_6 : Int)))) (when (FV.fits 8 true (List.getD h4096_6 (Int.toNat x4) FV.nilp)) (onR (R N_ref09_Strip [.fz (List.getD h4096_6 (Int.toNat x4) FV.nilp)]) fun r3 => when (List.isEmpty r3.2 && allF [.fz] r3.1) (when (((FV.fits 6 true (TV.toF (List.getD r3.1 0 TV.em))) && true) && true) (when (decide ((List.length h4099 + List.length [(TV.toF (List.getD r3.1 0 TV.em))]) * 88 ≤ roomy) && decide (List.length h4099 + List.length [(TV.toF (List.getD r3.1 0 TV.em))] ≤ roomy)) (L_ref09_Strip_1_3 R k w n (IntKind.wrap .i64 (x4 + 1)) h4096_0 h4096_1 h4096_2 h4096_3 h4096_4 h4096_5 h4096_6 h4096_7 h4097_0 h4097_1 h4097_2 h4097_3 h4098_0 h4098_1 h4098_2 h4098_3 (h4099 ++ [(TV.toF (List.getD r3.1 0 TV.em))]) h4100))))))
  (some ((.exit 0), X_ref09_Strip_1_3 h4097_0 h4097_1 h4097_2 h4097_3 h4098_0 h4098_1 h4098_2 h4098_3 h4099 h4100)) := by kernel_rfl
theorem X_ref09_Strip_1_1_eq (R : Orc) (k : Nat) (w : Bool) (h4096_0 : Int) (h4096_1 : Int) (h4096_2 : Int) (h4096_3 : ByteArray) (h4097_0 : Int) (h4097_1 : Int) (h4097_2 : Int) (h4097_3 : ByteArray) (h4098 : List FV) : K_ref09_Strip_1 R k w (.exit 0) (X_ref09_Strip_1_1 h4096_0 h4096_1 h4096_2 h4096_3 h4097_0 h4097_1 h4097_2 h4097_3 h4098) = some ([.fz (FV.ag [(FV.int .i64 h4097_0), (FV.int .i64 h4097_1), (FV.int .i64 h4097_2), (FV.str h4097_3), (FV.sl []), (FV.sl h4098)])], []) := by kernel_rfl
theorem X_ref09_Strip_1_2_eq (R : Orc) (k : Nat) (w : Bool) (h4096_0 : Int) (h4096_1 : Int) (h4096_2 : Int) (h4096_3 : ByteArray) (h4097_0 : Int) (h4097_1 : Int) (h4097_2 : Int) (h4097_3 : ByteArray) (h4098 : List FV) : K_ref09_Strip_1 R k w (.exit 0) (X_ref09_Strip_1_2 h4096_0 h4096_1 h4096_2 h4096_3 h4097_0 h4097_1 h4097_2 h4097_3 h4098) = some ([.fz (FV.ag [(FV.int .i64 h4097_0), (FV.int .i64 h4097_1), (FV.int .i64 h4097_2), (FV.str h4097_3), (FV.sl h4098), (FV.sl [])])], []) := by kernel_rfl
theorem X_ref09_Strip_1_3_eq (R : Orc) (k : Nat) (w : Bool) (h4096_0 : Int) (h4096_1 : Int) (h4096_2 : Int) (h4096_3 : ByteArray) (h4097_0 : Int) (h4097_1 : Int) (h4097_2 : Int) (h4097_3 : ByteArray) (h4098 : List FV) (h4099 : List FV) : K_ref09_Strip_1 R k w (.exit 0) (X_ref09_Strip_1_3 h4096_0 h4096_1 h4096_2 h4096_3 h4097_0 h4097_1 h4097_2 h4097_3 h4098 h4099) = some ([.fz (FV.ag [(FV.int .i64 h4097_0), (FV.int .i64 h4097_1), (FV.int .i64 h4097_2), (FV.str h4097_3), (FV.sl h4098), (FV.sl h4099)])], []) := by kernel_rfl
/-! keyhole/node.Array -/
def A_node_Array : AFunc := ⟨3, [(.cell 6 8 true, .fz)], .seq (.region [⟨(some 6), .alloc 8 true (.ag [.fz (.int .i64 0), .fz (.int .i64 0), .fz (.int .i64 0), .fz (.int .i64 0), .fz (.int .i64 0), .fz (.str ⟨#[]⟩), .nils, .nils]), none, none⟩])
 (.seq (.region [⟨(some 7), .mov (.t 1), none, some (.int .i64)⟩,
   ⟨(some 8), .mov (.t 0), none, none⟩,
   ⟨(some 9), .mov (.t 1), none, some (.int .i64)⟩,
   ⟨(some 10), .mov (.t 2), none, none⟩,
   ⟨(some 11), .call N_node_deep [((.t 8), .fz), ((.t 9), .fz), ((.t 10), .fz)] [.fz], none, some (.int .i64)⟩,
   ⟨(some 12), .buildSl 8 true 0 (.ag [.int .i64 0, .int .i64 0, .int .i64 0, .int .i64 0, .int .i64 0, .str ⟨#[]⟩, .sl [], .sl []]) [], none, none⟩,
   ⟨(some 13), .mov (.t 2), none, none⟩,
   ⟨(some 14), .append 8 true 104 false (.t 12) (.t 13), none, none⟩,
   ⟨(some 15), .build 8 [.fz (.int .i64 0), .fz (.int .i64 0), .fz (.int .i64 0), .fz (.int .i64 0), .fz (.int .i64 0), .fz (.str ⟨#[]⟩), .nils, .nils] [(0, 1, false, (.t 7)), (1, 1, false, (.t 11)), (2, 1, false, (.c (.fz (.int .i64 5)))), (6, 1, false, (.t 14))], none, none⟩,
   ⟨none, .store 8 true (.t 6) (.t 15), none, none⟩])
  (.ret))⟩
theorem E_node_Array (R : Orc) (k : Nat) (w : Bool) (a0 : FV) (a1 : Int) (a2 : List FV) : callL R k w A_node_Array [.fz (FV.pt 195 true a0 0), .fz (FV.int .i64 a1), .fz (FV.sl a2)] = onR (R N_node_deep [.fz (FV.pt 195 true a0 0), .fz (FV.int .i64 a1), .fz (FV.sl a2)]) fun r0 => when (List.isEmpty r0.2 && allF [.fz] r0.1) (when (FV.isInt .i64 (TV.toF (List.getD r0.1 0 TV.em))) (when (List.all a2 (FV.fits 8 true)) (when (decide (((0 : Nat) + List.length a2) * 104 ≤ roomy) && decide ((0 : Nat) + List.length a2 ≤ roomy)) (some ([.fz (FV.ag [(FV.int .i64 a1), (FV.int .i64 (FV.toInt (TV.toF (List.getD r0.1 0 TV.em)))), (FV.int .i64 5), (FV.int .i64 0), (FV.int .i64 0), (FV.str (⟨#[]⟩ : ByteArray)), (FV.sl a2), (FV.sl [])])], []))))) := by kernel_rfl
/-! keyhole/node.Mark -/
def A_node_Mark_b1 : ACode := .seq (.region [⟨(some 26), .binI .lss .i64 (.t 25) (.t 24), none, none⟩])
 (.seq (.cond (.t 26) (.skip)
   (.exit 0))
  (.seq (.block 1 (.seq (.region [⟨(some 27), .iadr (.sl 6 true) (.t 23) (.t 25), none, none⟩,
      ⟨(some 28), .load 6 true (.t 27), none, none⟩,
      ⟨(some 9), .alloc 6 true (.ag [.fz (.int .i64 0), .fz (.int .i64 0), .fz (.int .i64 0), .fz (.str ⟨#[]⟩), .nils, .nils]), none, none⟩,
      ⟨none, .store 6 true (.t 9) (.t 28), none, none⟩])
     (.draws [⟨⟨(some 29), .fadr 6 (.t 7), none, none⟩, []⟩,
      ⟨⟨(some 30), .load 1 false (.t 29), none, none⟩, [0]⟩,
      ⟨⟨(some 31), .mov (.t 0), none, none⟩, []⟩,
      ⟨⟨(some 32), .load 6 true (.t 9), none, none⟩, []⟩,
      ⟨⟨(some 33), .mov (.t 0), none, none⟩, []⟩,
      ⟨⟨(some 34), .call N_level_Lattice_Bottom [((.t 33), .fz)] [.fz], none, some (.int .i64)⟩, [4]⟩,
      ⟨⟨(some 35), .call N_node_Mark [((.t 31), .fz), ((.t 32), .fz), ((.t 34), .fz)] [.fz], none, none⟩, [2, 3, 5, 5]⟩,
      ⟨⟨(some 36), .buildSl 8 true 1 (.ag [.int .i64 0, .int .i64 0, .int .i64 0, .int .i64 0, .int .i64 0, .str ⟨#[]⟩, .sl [], .sl []]) [(0, (.t 35))], none, none⟩, [6]⟩,
      ⟨⟨(some 37), .append 8 true 104 false (.t 30) (.t 36), none, none⟩, [1, 7, 6]⟩,
      ⟨⟨(some 38), .fadr 6 (.t 7), none, none⟩, [0, 1, 2, 3, 4, 5, 6, 7, 8]⟩,
      ⟨⟨none, .store 1 false (.t 38) (.t 37), none, none⟩, [9, 8, 8, 0, 1, 2, 3, 4, 5, 6, 7, 8]⟩])))
   (.region [⟨(some 39), .binI .add .i64 (.t 25) (.c (.fz (.int .i64 1))), none, some (.int .i64)⟩,
    ⟨(some 25), .mov (.t 39), none, some (.int .i64)⟩])))
def A_node_Mark_s1 : ACode := .seq (.region [⟨(some 40), .mov (.t 0), none, none⟩,
  ⟨(some 41), .mov (.t 2), none, some (.int .i64)⟩,
  ⟨(some 42), .fadr 6 (.t 7), none, none⟩,
  ⟨(some 43), .load 1 false (.t 42), none, none⟩,
  ⟨(some 44), .call N_node_deep [((.t 40), .fz), ((.t 41), .fz), ((.t 43), .fz)] [.fz], none, some (.int .i64)⟩,
  ⟨(some 45), .fadr 1 (.t 7), none, none⟩,
  ⟨none, .store 1 false (.t 45) (.t 44), none, none⟩])
 (.seq (.region [⟨(some 46), .load 8 true (.t 7), none, none⟩,
   ⟨none, .store 8 true (.t 6) (.t 46), none, none⟩])
  (.ret))
def A_node_Mark : AFunc := ⟨3, [(.cell 6 8 true, .fz)], .seq (.region [⟨(some 4), .box 6 true (.t 1), none, none⟩,
  ⟨(some 6), .alloc 8 true (.ag [.fz (.int .i64 0), .fz (.int .i64 0), .fz (.int .i64 0), .fz (.int .i64 0), .fz (.int .i64 0), .fz (.str ⟨#[]⟩), .nils, .nils]), none, none⟩])
 (.seq (.draws [⟨⟨(some 10), .mov (.t 2), none, some (.int .i64)⟩, []⟩,
   ⟨⟨(some 11), .fadr 0 (.t 4), none, none⟩, []⟩,
   ⟨⟨(some 12), .load 1 false (.t 11), none, some (.int .i64)⟩, [1]⟩,
   ⟨⟨(some 13), .fadr 1 (.t 4), none, none⟩, []⟩,
   ⟨⟨(some 14), .load 2 true (.t 13), none, none⟩, [3]⟩,
   ⟨⟨(some 15), .fadr 3 (.t 4), none, none⟩, []⟩,
   ⟨⟨(some 16), .load 1 false (.t 15), none, some .str⟩, [5]⟩,
   ⟨⟨(some 17), .buildSl 1 false 0 (.str ⟨#[]⟩) [], none, none⟩, []⟩,
   ⟨⟨(some 18), .fadr 5 (.t 4), none, none⟩, []⟩,
   ⟨⟨(some 19), .load 1 false (.t 18), none, none⟩, [8]⟩,
   ⟨⟨(some 20), .append 1 false 16 false (.t 17) (.t 19), none, none⟩, [7, 9]⟩,
   ⟨⟨(some 21), .build 8 [.fz (.int .i64 0), .fz (.int .i64 0), .fz (.int .i64 0), .fz (.int .i64 0), .fz (.int .i64 0), .fz (.str ⟨#[]⟩), .nils, .nils] [(0, 1, false, (.t 10)), (2, 1, false, (.t 12)), (3, 2, true, (.t 14)), (5, 1, false, (.t 16)), (7, 1, false, (.t 20))], none, none⟩, [0, 2, 4, 6, 10]⟩,
   ⟨⟨(some 7), .alloc 8 true (.ag [.fz (.int .i64 0), .fz (.int .i64 0), .fz (.int .i64 0), .fz (.int .i64 0), .fz (.int .i64 0), .fz (.str ⟨#[]⟩), .nils, .nils]), none, none⟩, []⟩,
   ⟨⟨none, .store 8 true (.t 7) (.t 21), none, none⟩, [12, 11, 10, 0, 1, 2, 3, 4, 5, 6, 7, 8, 9, 10, 11, 12]⟩])
  (.seq (.seq (.region [⟨(some 22), .fadr 4 (.t 4), none, none⟩,
     ⟨(some 23), .load 1 false (.t 22), none, none⟩,
     ⟨(some 24), .len (.sl 6 true) (.t 23), none, some (.int .i64)⟩,
     ⟨(some 25), .mov (.c (.fz (.int .i64 0))), none, some (.int .i64)⟩])
    (.block 0 (.loop [0, 2, 6, 7, 23, 24, 25] [0, 2, 6, 7] A_node_Mark_b1)))
   A_node_Mark_s1))⟩
def K_node_Mark_1 (R : Orc) (k : Nat) (w : Bool) : AExit → St → Option Ans := (kBlk 0 (kSeq R k w [] A_node_Mark_s1 (kFin R [(.cell 6 8 true, .fz)] [])))
def L_node_Mark_1_0 (R : Orc) (k : Nat) (w : Bool) (n : Nat) (x0e : FV) (x2 : Int) (x23 : List FV) (x24 : Int) (x25 : Int) (h4096_0 : Int) (h4096_1 : Int) (h4096_2 : Int) (h4096_3 : Int) (h4096_4 : Int) (h4096_5 : ByteArray) (h4097_0 : Int) (h4097_1 : Int) (h4097_2 : Int) (h4097_3 : Int) (h4097_4 : Int) (h4097_5 : ByteArray) (h4098 : List FV) := loopL R k w [] [0, 2, 6, 7, 23, 24, 25] [0, 2, 6, 7] A_node_Mark_b1 n ⟨[(0, .fz (FV.pt 195 true x0e 0)), (2, .fz (FV.int .i64 x2)), (6, .ptr 4096 0 0), (7, .ptr 4097 0 0), (23, .fz (FV.sl x23)), (24, .fz (FV.int .i64 x24)), (25, .fz (FV.int .i64 x25))], [(4095, .dead), (4096, .var 8 true (.ag [.fz (FV.int .i64 h4096_0), .fz (FV.int .i64 h4096_1), .fz (FV.int .i64 h4096_2), .fz (FV.int .i64 h4096_3), .fz (FV.int .i64 h4096_4), .fz (FV.str h4096_5), .nils, .nils])), (4097, .var 8 true (.ag [.fz (FV.int .i64 h4097_0), .fz (FV.int .i64 h4097_1), .fz (FV.int .i64 h4097_2), .fz (FV.int .i64 h4097_3), .fz (FV.int .i64 h4097_4), .fz (FV.str h4097_5), .nils, .rw 4098])), (4098, .row 1 false h4098)]⟩
def L_node_Mark_1_1 (R : Orc) (k : Nat) (w : Bool) (n : Nat) (x0e : FV) (x2 : Int) (x23 : List FV) (x24 : Int) (x25 : Int) (h4096_0 : Int) (h4096_1 : Int) (h4096_2 : Int) (h4096_3 : Int) (h4096_4 : Int) (h4096_5 : ByteArray) (h4097_0 : Int) (h4097_1 : Int) (h4097_2 : Int) (h4097_3 : Int) (h4097_4 : Int) (h4097_5 : ByteArray) (h4098 : List FV) (h4099 : List FV) := loopL R k w [] [0, 2, 6, 7, 23, 24, 25] [0, 2, 6, 7] A_node_Mark_b1 n ⟨[(0, .fz (FV.pt 195 true x0e 0)), (2, .fz (FV.int .i64 x2)), (6, .ptr 4096 0 0), (7, .ptr 4097 0 0), (23, .fz (FV.sl x23)), (24, .fz (FV.int .i64 x24)), (25, .fz (FV.int .i64 x25))], [(4095, .dead), (4096, .var 8 true (.ag [.fz (FV.int .i64 h4096_0), .fz (FV.int .i64 h4096_1), .fz (FV.int .i64 h4096_2), .fz (FV.int .i64 h4096_3), .fz (FV.int .i64 h4096_4), .fz (FV.str h4096_5), .nils, .nils])), (4097, .var 8 true (.ag [.fz (FV.int .i64 h4097_0), .fz (FV.int .i64 h4097_1), .fz (FV.int .i64 h4097_2), .fz (FV.int .i64 h4097_3), .fz (FV.int .i64 h4097_4), .fz (FV.str h4097_5), .rw 4098, .rw 4099])), (4098, .row 8 true h4098), (4099, .row 1 false h4099)]⟩
def X_node_Mark_1_0 (x0e : FV) (x2 : Int) (h4096_0 : Int) (h4096_1 : Int) (h4096_2 : Int) (h4096_3 : Int) (h4096_4 : Int) (h4096_5 : ByteArray) (h4097_0 : Int) (h4097_1 : Int) (h4097_2 : Int) (h4097_3 : Int) (h4097_4 : Int) (h4097_5 : ByteArray) (h4098 : List FV) : St := ⟨[(0, .fz (FV.pt 195 true x0e 0)), (2, .fz (FV.int .i64 x2)), (6, .ptr 4096 0 0), (7, .ptr 4097 0 0)], [(4095, .dead), (4096, .var 8 true (.ag [.fz (FV.int .i64 h4096_0), .fz (FV.int .i64 h4096_1), .fz (FV.int .i64 h4096_2), .fz (FV.int .i64 h4096_3), .fz (FV.int .i64 h4096_4), .fz (FV.str h4096_5), .nils, .nils])), (4097, .var 8 true (.ag [.fz (FV.int .i64 h4097_0), .fz (FV.int .i64 h4097_1), .fz (FV.int .i64 h4097_2), .fz (FV.int .i64 h4097_3), .fz (FV.int .i64 h4097_4), .fz (FV.str h4097_5), .nils, .rw 4098])), (4098, .row 1 false h4098)]⟩
def X_node_Mark_1_1 (x0e : FV) (x2 : Int) (h4096_0 : Int) (h4096_1 : Int) (h4096_2 : Int) (h4096_3 : Int) (h4096_4 : Int) (h4096_5 : ByteArray) (h4097_0 : Int) (h4097_1 : Int) (h4097_2 : Int) (h4097_3 : Int) (h4097_4 : Int) (h4097_5 : ByteArray) (h4098 : List FV) (h4099 : List FV) : St := ⟨[(0, .fz (FV.pt 195 true x0e 0)), (2, .fz (FV.int .i64 x2)), (6, .ptr 4096 0 0), (7, .ptr 4097 0 0)], [(4095, .dead), (4096, .var 8 true (.ag [.fz (FV.int .i64 h4096_0), .fz (FV.int .i64 h4096_1), .fz (FV.int .i64 h4096_2), .fz (FV.int .i64 h4096_3), .fz (FV.int .i64 h4096_4), .fz (FV.str h4096_5), .nils, .nils])), (4097, .var 8 true (.ag [.fz (FV.int .i64 h4097_0), .fz (FV.int .i64 h4097_1), .fz (FV.int .i64 h4097_2), .fz (FV.int .i64 h4097_3), .fz (FV.int .i64 h4097_4), .fz (FV.str h4097_5), .rw 4098, .rw 4099])), (4098, .row 8 true h4098), (4099, .row 1 false h4099)]⟩
theorem E_node_Mark (R : Orc) (k : Nat) (w : Bool) (a0 : FV) (a1_0 : Int) (a1_1_0 : Int) (a1_1_1 : Int) (a1_2 : ByteArray) (a1_3 : List FV) (a1_4 : List FV) (a2 : Int) : callL R k w A_node_Mark [.fz (FV.pt 195 true a0 0), .fz (FV.ag [(FV.int .i64 a1_0), (FV.int .i64 a1_1_0), (FV.int .i64 a1_1_1), (FV.str a1_2), (FV.sl a1_3), (FV.sl a1_4)]), .fz (FV.int .i64 a2)] = when (List.all a1_4 (FV.fits 1 false)) (when (decide (((0 : Nat) + List.length a1_4) * 16 ≤ roomy) && decide ((0 : Nat) + List.length a1_4 ≤ roomy)) (onL (L_node_Mark_1_0 R k w k a0 a2 a1_3 (List.length a1_3 : Int) 0 0 0 0 0 0 (⟨#[]⟩ : ByteArray) a2 0 a1_0 a1_1_0 a1_1_1 a1_2 a1_4) (K_node_Mark_1 R k w))) := by kernel_rfl
theorem L_node_Mark_1_0_eq (R : Orc) (k : Nat) (w : Bool) (n : Nat) (x0e : FV) (x2 : Int) (x23 : List FV) (x24 : Int) (x25 : Int) (h4096_0 : Int) (h4096_1 : Int) (h4096_2 : Int) (h4096_3 : Int) (h4096_4 : Int) (h4096_5 : ByteArray) (h4097_0 : Int) (h4097_1 : Int) (h4097_2 : Int) (h4097_3 : Int) (h4097_4 : Int) (h4097_5 : ByteArray) (h4098 : List FV) : L_node_Mark_1_0 R k w (n + 1) x0e x2 x23 x24 x25 h4096_0 h4096_1 h4096_2 h4096_3 h4096_4 h4096_5 h4097_0 h4097_1 h4097_2 h4097_3 h4097_4 h4097_5 h4098 = ifB (decide (x25 < x24))
  (when ((decide (0 ≤ x25)) && (decide (x25 < (List.length x23 : Int)))) (when (FV.fits 6 true (List.getD x23 (Int.toNat x25) FV.nilp)) (when (FV.fits 6 true (List.getD x23 (Int.toNat x25) FV.nilp)) (onR (R N_level_Lattice_Bottom [.fz (FV.pt 195 true x0e 0)]) fun r0 => when (List.isEmpty r0.2 && allF [.fz] r0.1) (when (FV.isInt .i64 (TV.toF (List.getD r0.1 0 TV.em))) (onR (R N_node_Mark [.fz (FV.pt 195 true x0e 0), .fz (List.getD x23 (Int.toNat x25) FV.nilp), .fz (FV.int .i64 (FV.toInt (TV.toF (List.getD r0.1 0 TV.em))))]) fun r1 => when (List.isEmpty r1.2 && allF [.fz] r1.1) (when (((FV.fits 8 true (TV.toF (List.getD r1.1 0 TV.em))) && true) && true) (when (decide (((0 : Nat) + List.length [(TV.toF (List.getD r1.1 0 TV.em))]) * 104 ≤ roomy) && decide ((0 : Nat) + List.length [(TV.toF (List.getD r1.1 0 TV.em))] ≤ roomy)) (L_node_Mark_1_1 R k w n x0e x2 x23 x24 (IntKind.wrap .i64 (x25 + 1)) h4096_0 h4096_1 h4096_2 h4096_3 h4096_4 h4096_5 h4097_0 h4097_1 h4097_2 h4097_3 h4097_4 h4097_5 [(TV.toF (List.getD r1.1 0 TV.em))] h4098)))))))))
  (some ((.exit 0), X_node_Mark_1_0 x0e x2 h4096_0 h4096_1 h4096_2 h4096_3 h4096_4 h4096_5 h4097_0 h4097_1 h4097_2 h4097_3 h4097_4 h4097_5 h4098)) := by kernel_rfl
theorem L_node_Mark_1_1_eq (R : Orc) (k : Nat) (w : Bool) (n : Nat) (x0e : FV) (x2 : Int) (x23 : List FV) (x24 : Int) (x25 : Int) (h4096_0 : Int) (h4096_1 : Int) (h4096_2 : Int) (h4096_3 : Int) (h4096_4 : Int) (h4096_5 : ByteArray) (h4097_0 : Int) (h4097_1 : Int) (h4097_2 : Int) (h4097_3 : Int) (h4097_4 : Int) (h4097_5 : ByteArray) (h4098 : List FV) (h4099 : List FV) : L_node_Mark_1_1 R k w (n + 1) x0e x2 x23 x24 x25 h4096_0 h4096_1 h4096_2 h4096_3 h4096_4 h4096_5 h4097_0 h4097_1 h4097_2 h4097_3 h4097_4 h4097_5 h4098 h4099 = ifB (decide (x25 < x24))
  (when ((decide (0 ≤ x25)) && (decide (x25 < (List.length x23 : Int)))) (when (FV.fits 6 true (List.getD x23 (Int.toNat x25) FV.nilp)) (when (FV.fits 6 true (List.getD x23 (Int.toNat x25) FV.nilp)) (onR (R N_level_Lattice_Bottom [.fz (FV.pt 195 true x0e 0)]) fun r2 => when (List.isEmpty r2.2 && allF [.fz] r2.1) (when (FV.isInt .i64 (TV.toF (List.getD r2.1 0 TV.em))) (onR (R N_node_Mark [.fz (FV.pt 195 true x0e 0), .fz (List.getD x23 (Int.toNat x25) FV.nilp), .fz (FV.int .i64 (FV.toInt (TV.toF (List.getD r2.1 0 TV.em))))]) fun r3 => when (List.isEmpty r3.2 && allF [.fz] r3.1) (when (((FV.fits 8 true (TV.toF (List.getD r3.1 0 TV.em))) && true) && true) (when (decide ((List.length h4098 + List.length [(TV.toF (List.getD r3.1 0 TV.em))]) * 104 ≤ roomy) && decide (List.length h4098 + List.length [(TV.toF (List.getD r3.1 0 TV.em))] ≤ roomy)) (L_node_Mark_1_1 R k w n x0e x2 x23 x24 (IntKind.wrap .i64 (x25 + 1)) h4096_0 h4096_1 h4096_2 h4096_3 h4096_4 h4096_5 h4097_0 h4097_1 h4097_2 h4097_3 h4097_4 h4097_5 (h4098 ++ [(TV.toF (List.getD r3.1 0 TV.em))]) h4099)))))))))
  (some ((.exit 0), X_node_Mark_1_1 x0e x2 h4096_0 h4096_1 h4096_2 h4096_3 h4096_4 h4096_5 h4097_0 h4097_1 h4097_2 h4097_3 h4097_4 h4097_5 h4098 h4099)) := by kernel_rfl
theorem X_node_Mark_1_0_eq (R : Orc) (k : Nat) (w : Bool) (x0e : FV) (x2 : Int) (h4096_0 : Int) (h4096_1 : Int) (h4096_2 : Int) (h4096_3 : Int) (h4096_4 : Int) (h4096_5 : ByteArray) (h4097_0 : Int) (h4097_1 : Int) (h4097_2 : Int) (h4097_3 : Int) (h4097_4 : Int) (h4097_5 : ByteArray) (h4098 : List FV) : K_node_Mark_1 R k w (.exit 0) (X_node_Mark_1_0 x0e x2 h4096_0 h4096_1 h4096_2 h4096_3 h4096_4 h4096_5 h4097_0 h4097_1 h4097_2 h4097_3 h4097_4 h4097_5 h4098) = onR (R N_node_deep [.fz (FV.pt 195 true x0e 0), .fz (FV.int .i64 x2), .fz (FV.sl [])]) fun r4 => when (List.isEmpty r4.2 && allF [.fz] r4.1) (when (FV.isInt .i64 (TV.toF (List.getD r4.1 0 TV.em))) (some ([.fz (FV.ag [(FV.int .i64 h4097_0), (FV.int .i64 (FV.toInt (TV.toF (List.getD r4.1 0 TV.em)))), (FV.int .i64 h4097_2), (FV.int .i64 h4097_3), (FV.int .i64 h4097_4), (FV.str h4097_5), (FV.sl []), (FV.sl h4098)])], []))) := by kernel_rfl
theorem X_node_Mark_1_1_eq (R : Orc) (k : Nat) (w : Bool) (x0e : FV) (x2 : Int) (h4096_0 : Int) (h4096_1 : Int) (h4096_2 : Int) (h4096_3 : Int) (h4096_4 : Int) (h4096_5 : ByteArray) (h4097_0 : Int) (h4097_1 : Int) (h4097_2 : Int) (h4097_3 : Int) (h4097_4 : Int) (h4097_5 : ByteArray) (h4098 : List FV) (h4099 : List FV) : K_node_Mark_1 R k w (.exit 0) (X_node_Mark_1_1 x0e x2 h4096_0 h4096_1 h4096_2 h4096_3 h4096_4 h4096_5 h4097_0 h4097_1 h4097_2 h4097_3 h4097_4 h4097_5 h4098 h4099) = onR (R N_node_deep [.fz (FV.pt 195 true x0e 0), .fz (FV.int .i64 x2), .fz (FV.sl h4098)]) fun r5 => when (List.isEmpty r5.2 && allF [.fz] r5.1) (when (FV.isInt .i64 (TV.toF (List.getD r5.1 0 TV.em))) (some ([.fz (FV.ag [(FV.int .i64 h4097_0), (FV.int .i64 (FV.toInt (TV.toF (List.getD r5.1 0 TV.em)))), (FV.int .i64 h4097_2), (FV.int .i64 h4097_3), (FV.int .i64 h4097_4), (FV.str h4097_5), (FV.sl h4098), (FV.sl h4099)])], []))) := by kernel_rfl
/-! (*keyhole/level.Lattice).Is -/
def A_level_Lattice_Is : AFunc := ⟨2, [(.tmp 4, .fz)], .seq (.region [⟨(some 4), .mov (.c (.fz (.bool false))), none, some .bool⟩])
 (.seq (.region [⟨(some 5), .mov (.t 1), none, some (.int .i64)⟩,
   ⟨(some 6), .binI .geq .i64 (.t 5) (.c (.fz (.int .i64 0))), none, some .bool⟩,
   ⟨(some 7), .mov (.t 6), none, some .bool⟩,
   ⟨(some 8), .mov (.t 1), (some (7, true)), some (.int .i64)⟩,
   ⟨(some 9), .mov (.t 0), (some (7, true)), none⟩,
   ⟨(some 10), .call N_level_Lattice_Size [((.t 9), .fz)] [.fz], (some (7, true)), some (.int .i64)⟩,
   ⟨(some 11), .binI .lss .i64 (.t 8) (.t 10), (some (7, true)), some .bool⟩,
   ⟨(some 12), .pick (.t 7) (.t 11) (.c (.fz (.bool false))), none, some .bool⟩,
   ⟨(some 4), .mov (.t 12), none, some .bool⟩])
  (.ret))⟩
theorem E_level_Lattice_Is (R : Orc) (k : Nat) (w : Bool) (a0 : FV) (a1 : Int) : callL R k w A_level_Lattice_Is [.fz (FV.pt 195 true a0 0), .fz (FV.int .i64 a1)] = ifB (decide (a1 ≥ 0))
  (onR (R N_level_Lattice_Size [.fz (FV.pt 195 true a0 0)]) fun r0 => when (List.isEmpty r0.2 && allF [.fz] r0.1) (when (FV.isInt .i64 (TV.toF (List.getD r0.1 0 TV.em))) (some ([.fz (FV.bool (decide (a1 < (FV.toInt (TV.toF (List.getD r0.1 0 TV.em))))))], []))))
  (some ([.fz (FV.bool false)], [])) := by kernel_rfl
/-! (*keyhole/level.Lattice).Top -/
def A_level_Lattice_Top : AFunc := ⟨1, [(.tmp 2, .fz)], .seq (.region [⟨(some 2), .mov (.c (.fz (.int .i64 0))), none, some (.int .i64)⟩])
 (.seq (.seq (.region [⟨(some 3), .mov (.t 0), none, none⟩,
    ⟨(some 4), .eqNil false (.t 3), none, some .bool⟩])
   (.cond (.t 4) (.seq (.region [⟨(some 2), .mov (.c (.fz (.int .i64 0))), none, some (.int .i64)⟩])
     (.ret))
    (.skip)))
  (.seq (.region [⟨(some 5), .mov (.t 0), none, none⟩,
    ⟨(some 6), .nilck (.t 5), none, none⟩,
    ⟨(some 7), .fadr 194 (.t 6), none, none⟩,
    ⟨(some 8), .load 1 false (.t 7), none, some (.int .i64)⟩,
    ⟨(some 2), .mov (.t 8), none, some (.int .i64)⟩])
   (.ret)))⟩
theorem E_level_Lattice_Top (R : Orc) (k : Nat) (w : Bool) (a0 : FV) : callL R k w A_level_Lattice_Top [.fz (FV.pt 195 true a0 0)] = when (FV.isAg 195 a0) (when (FV.isInt .i64 (FV.cell a0 194)) (some ([.fz (FV.int .i64 (FV.toInt (FV.cell a0 194)))], []))) := by kernel_rfl
/-! keyhole/keyholeref01.Join -/
def A_ref01_Join_b1 : ACode := .seq (.seq (.region [⟨(some 33), .mov (.t 10), none, some (.int .i64)⟩,
   ⟨(some 34), .mov (.t 0), none, none⟩,
   ⟨(some 35), .len (.sl 1 false) (.t 34), none, some (.int .i64)⟩,
   ⟨(some 36), .binI .lss .i64 (.t 33) (.t 35), none, some .bool⟩])
  (.cond (.t 36) (.skip)
   (.exit 2)))
 (.seq (.block 3 (.seq (.region [⟨(some 39), .mov (.t 0), none, none⟩,
     ⟨(some 40), .mov (.t 1), none, some (.int .i64)⟩,
     ⟨(some 41), .iadr (.sl 1 false) (.t 39) (.t 40), none, none⟩,
     ⟨(some 42), .load 1 false (.t 41), none, none⟩,
     ⟨(some 43), .mov (.t 10), none, some (.int .i64)⟩,
     ⟨(some 44), .iadr (.sl 1 false) (.t 42) (.t 43), none, none⟩,
     ⟨(some 45), .load 1 false (.t 44), none, some .bool⟩,
     ⟨(some 46), .mov (.t 45), none, some .bool⟩,
     ⟨(some 47), .mov (.t 0), (some (46, true)), none⟩,
     ⟨(some 48), .mov (.t 2), (some (46, true)), some (.int .i64)⟩,
     ⟨(some 49), .iadr (.sl 1 false) (.t 47) (.t 48), (some (46, true)), none⟩,
     ⟨(some 50), .load 1 false (.t 49), (some (46, true)), none⟩,
     ⟨(some 51), .mov (.t 10), (some (46, true)), some (.int .i64)⟩,
     ⟨(some 52), .iadr (.sl 1 false) (.t 50) (.t 51), (some (46, true)), none⟩,
     ⟨(some 53), .load 1 false (.t 52), (some (46, true)), some .bool⟩,
     ⟨(some 54), .pick (.t 46) (.t 53) (.c (.fz (.bool false))), none, some .bool⟩,
     ⟨(some 55), .mov (.t 54), none, some .bool⟩,
     ⟨(some 56), .mov (.t 0), (some (55, true)), none⟩,
     ⟨(some 57), .mov (.t 8), (some (55, true)), some (.int .i64)⟩,
     ⟨(some 58), .iadr (.sl 1 false) (.t 56) (.t 57), (some (55, true)), none⟩,
     ⟨(some 59), .load 1 false (.t 58), (some (55, true)), none⟩,
     ⟨(some 60), .mov (.t 10), (some (55, true)), some (.int .i64)⟩,
     ⟨(some 61), .iadr (.sl 1 false) (.t 59) (.t 60), (some (55, true)), none⟩,
     ⟨(some 62), .load 1 false (.t 61), (some (55, true)), some .bool⟩,
     ⟨(some 63), .notB (.t 62), (some (55, true)), some .bool⟩,
     ⟨(some 64), .pick (.t 55) (.t 63) (.c (.fz (.bool false))), none, some .bool⟩])
    (.cond (.t 64) (.region [⟨(some 9), .mov (.c (.fz (.bool false))), none, some .bool⟩])
     (.skip))))
  (.region [⟨(some 37), .mov (.t 10), none, some (.int .i64)⟩,
   ⟨(some 38), .binI .add .i64 (.t 37) (.c (.fz (.int .i64 1))), none, some (.int .i64)⟩,
   ⟨(some 10), .mov (.t 38), none, some (.int .i64)⟩]))
def A_ref01_Join_s1 : ACode := .seq (.region [⟨(some 65), .mov (.t 9), none, some .bool⟩])
 (.cond (.t 65) (.region [⟨(some 66), .mov (.t 7), none, none⟩,
   ⟨(some 67), .mov (.t 8), none, some (.int .i64)⟩,
   ⟨(some 68), .buildSl 1 false 1 (.int .i64 0) [(0, (.t 67))], none, none⟩,
   ⟨(some 69), .append 1 false 8 false (.t 66) (.t 68), none, none⟩,
   ⟨(some 7), .mov (.t 69), none, none⟩])
  (.skip))
def A_ref01_Join_j2 : ACode := .seq (.seq (.region [⟨(some 10), .mov (.c (.fz (.int .i64 0))), none, some (.int .i64)⟩])
  (.block 2 (.loop [0, 1, 2, 7, 8, 9, 10] [0, 1, 2, 7, 8, 9] A_ref01_Join_b1)))
 A_ref01_Join_s1
def A_ref01_Join_s3 : ACode := .region [⟨(some 15), .mov (.t 8), none, some (.int .i64)⟩,
 ⟨(some 16), .binI .add .i64 (.t 15) (.c (.fz (.int .i64 1))), none, some (.int .i64)⟩,
 ⟨(some 8), .mov (.t 16), none, some (.int .i64)⟩]
def A_ref01_Join_b2 : ACode := .seq (.seq (.region [⟨(some 11), .mov (.t 8), none, some (.int .i64)⟩,
   ⟨(some 12), .mov (.t 0), none, none⟩,
   ⟨(some 13), .len (.sl 1 false) (.t 12), none, some (.int .i64)⟩,
   ⟨(some 14), .binI .lss .i64 (.t 11) (.t 13), none, some .bool⟩])
  (.cond (.t 14) (.skip)
   (.exit 0)))
 (.seq (.block 1 (.seq (.region [⟨(some 17), .mov (.t 0), none, none⟩,
     ⟨(some 18), .mov (.t 1), none, some (.int .i64)⟩,
     ⟨(some 19), .iadr (.sl 1 false) (.t 17) (.t 18), none, none⟩,
     ⟨(some 20), .load 1 false (.t 19), none, none⟩,
     ⟨(some 21), .mov (.t 8), none, some (.int .i64)⟩,
     ⟨(some 22), .iadr (.sl 1 false) (.t 20) (.t 21), none, none⟩,
     ⟨(some 23), .load 1 false (.t 22), none, some .bool⟩,
     ⟨(some 24), .mov (.t 23), none, some .bool⟩,
     ⟨(some 25), .mov (.t 0), (some (24, true)), none⟩,
     ⟨(some 26), .mov (.t 2), (some (24, true)), some (.int .i64)⟩,
     ⟨(some 27), .iadr (.sl 1 false) (.t 25) (.t 26), (some (24, true)), none⟩,
     ⟨(some 28), .load 1 false (.t 27), (some (24, true)), none⟩,
     ⟨(some 29), .mov (.t 8), (some (24, true)), some (.int .i64)⟩,
     ⟨(some 30), .iadr (.sl 1 false) (.t 28) (.t 29), (some (24, true)), none⟩,
     ⟨(some 31), .load 1 false (.t 30), (some (24, true)), some .bool⟩,
     ⟨(some 32), .pick (.t 24) (.t 31) (.c (.fz (.bool false))), none, some .bool⟩,
     ⟨(some 9), .mov (.t 32), none, some .bool⟩])
    (.trim [0, 1, 2, 7, 8, 9] A_ref01_Join_j2)))
  A_ref01_Join_s3)
def A_ref01_Join_s4 : ACode := .seq (.region [⟨(some 70), .mov (.t 7), none, none⟩,
  ⟨(some 6), .mov (.t 70), none, none⟩])
 (.ret)
def A_ref01_Join : AFunc := ⟨3, [(.tmp 6, .fz)], .seq (.region [⟨(some 6), .mov (.c (.nils)), none, none⟩])
 (.seq (.region [⟨(some 7), .mov (.c (.nils)), none, none⟩])
  (.seq (.seq (.region [⟨(some 8), .mov (.c (.fz (.int .i64 0))), none, some (.int .i64)⟩])
    (.block 0 (.loop [0, 1, 2, 7, 8] [7] A_ref01_Join_b2)))
   A_ref01_Join_s4))⟩
def K_ref01_Join_2 (R : Orc) (k : Nat) (w : Bool) : AExit → St → Option Ans := (kBlk 0 (kSeq R k w [] A_ref01_Join_s4 (kFin R [(.tmp 6, .fz)] [])))
def L_ref01_Join_2_0 (R : Orc) (k : Nat) (w : Bool) (n : Nat) (x0 : List FV) (x1 : Int) (x2 : Int) (x8 : Int) := loopL R k w [] [0, 1, 2, 7, 8] [7] A_ref01_Join_b2 n ⟨[(0, .fz (FV.sl x0)), (1, .fz (FV.int .i64 x1)), (2, .fz (FV.int .i64 x2)), (7, .nils), (8, .fz (FV.int .i64 x8))], [(4095, .dead)]⟩
def J_ref01_Join_2_0 (R : Orc) (k : Nat) (w : Bool) (n : Nat) (x0 : List FV) (x1 : Int) (x2 : Int) (x8 : Int) (x9 : Bool) := execL R k w [] A_ref01_Join_j2 (AExit × St) ⟨[(0, .fz (FV.sl x0)), (1, .fz (FV.int .i64 x1)), (2, .fz (FV.int .i64 x2)), (7, .nils), (8, .fz (FV.int .i64 x8)), (9, .fz (FV.bool x9))], [(4095, .dead)]⟩ (kBlk 1 (kSeq R k w [] A_ref01_Join_s3 (kLoop R k w [] [0, 1, 2, 7, 8] [7] A_ref01_Join_b2 n)))
def X_ref01_Join_2_0 : St := ⟨[(7, .nils)], [(4095, .dead)]⟩
def K_ref01_Join_1 (R : Orc) (k : Nat) (w : Bool) (n : Nat) : AExit → St → Option (AExit × St) := (kBlk 2 (kSeq R k w [] A_ref01_Join_s1 (kBlk 1 (kSeq R k w [] A_ref01_Join_s3 (kLoop R k w [] [0, 1, 2, 7, 8] [7] A_ref01_Join_b2 n)))))
def L_ref01_Join_1_0 (R : Orc) (k : Nat) (w : Bool) (n : Nat) (x0 : List FV) (x1 : Int) (x2 : Int) (x8 : Int) (x9 : Bool) (x10 : Int) := loopL R k w [] [0, 1, 2, 7, 8, 9, 10] [0, 1, 2, 7, 8, 9] A_ref01_Join_b1 n ⟨[(0, .fz (FV.sl x0)), (1, .fz (FV.int .i64 x1)), (2, .fz (FV.int .i64 x2)), (7, .nils), (8, .fz (FV.int .i64 x8)), (9, .fz (FV.bool x9)), (10, .fz (FV.int .i64 x10))], [(4095, .dead)]⟩
def X_ref01_Join_1_0 (x0 : List FV) (x1 : Int) (x2 : Int) (x8 : Int) (x9 : Bool) : St := ⟨[(0, .fz (FV.sl x0)), (1, .fz (FV.int .i64 x1)), (2, .fz (FV.int .i64 x2)), (7, .nils), (8, .fz (FV.int .i64 x8)), (9, .fz (FV.bool x9))], [(4095, .dead)]⟩
def L_ref01_Join_2_1 (R : Orc) (k : Nat) (w : Bool) (n : Nat) (x0 : List FV) (x1 : Int) (x2 : Int) (x8 : Int) (h4096 : List FV) := loopL R k w [] [0, 1, 2, 7, 8] [7] A_ref01_Join_b2 n ⟨[(0, .fz (FV.sl x0)), (1, .fz (FV.int .i64 x1)), (2, .fz (FV.int .i64 x2)), (7, .rw 4096), (8, .fz (FV.int .i64 x8))], [(4095, .dead), (4096, .row 1 false h4096)]⟩
def J_ref01_Join_2_1 (R : Orc) (k : Nat) (w : Bool) (n : Nat) (x0 : List FV) (x1 : Int) (x2 : Int) (x8 : Int) (x9 : Bool) (h4096 : List FV) := execL R k w [] A_ref01_Join_j2 (AExit × St) ⟨[(0, .fz (FV.sl x0)), (1, .fz (FV.int .i64 x1)), (2, .fz (FV.int .i64 x2)), (7, .rw 4096), (8, .fz (FV.int .i64 x8)), (9, .fz (FV.bool x9))], [(4095, .dead), (4096, .row 1 false h4096)]⟩ (kBlk 1 (kSeq R k w [] A_ref01_Join_s3 (kLoop R k w [] [0, 1, 2, 7, 8] [7] A_ref01_Join_b2 n)))
def X_ref01_Join_2_1 (h4096 : List FV) : St := ⟨[(7, .rw 4096)], [(4095, .dead), (4096, .row 1 false h4096)]⟩
def L_ref01_Join_1_1 (R : Orc) (k : Nat) (w : Bool) (n : Nat) (x0 : List FV) (x1 : Int) (x2 : Int) (x8 : Int) (x9 : Bool) (x10 : Int) (h4096 : List FV) := loopL R k w [] [0, 1, 2, 7, 8, 9, 10] [0, 1, 2, 7, 8, 9] A_ref01_Join_b1 n ⟨[(0, .fz (FV.sl x0)), (1, .fz (FV.int .i64 x1)), (2, .fz (FV.int .i64 x2)), (7, .rw 4096), (8, .fz (FV.int .i64 x8)), (9, .fz (FV.bool x9)), (10, .fz (FV.int .i64 x10))], [(4095, .dead), (4096, .row 1 false h4096)]⟩
def X_ref01_Join_1_1 (x0 : List FV) (x1 : Int) (x2 : Int) (x8 : Int) (x9 : Bool) (h4096 : List FV) : St := ⟨[(0, .fz (FV.sl x0)), (1, .fz (FV.int .i64 x1)), (2, .fz (FV.int .i64 x2)), (7, .rw 4096), (8, .fz (FV.int .i64 x8)), (9, .fz (FV.bool x9))], [(4095, .dead), (4096, .row 1 false h4096)]⟩
theorem E_ref01_Join (R : Orc) (k : Nat) (w : Bool) (a0 : List FV) (a1 : Int) (a2 : Int) : callL R k w A_ref01_Join [.fz (FV.sl a0), .fz (FV.int .i64 a1), .fz (FV.int .i64 a2)] = onL (L_ref01_Join_2_0 R k w k a0 a1 a2 0) (K_ref01_Join_2 R k w) := by kernel_rfl
theorem L_ref01_Join_2_0_eq (R : Orc) (k : Nat) (w : Bool) (n : Nat) (x0 : List FV) (x1 : Int) (x2 : Int) (x8 : Int) : L_ref01_Join_2_0 R k w (n + 1) x0 x1 x2 x8 = ifB (decide (x8 < (List.length x0 : Int)))
  (when ((decide (0 ≤ x1)) && (decide (x1 < (List.length x0 : Int)))) (when (FV.fits 1 false (List.getD x0 (Int.toNat x1) FV.nilp)) (when (FV.isSl (List.getD x0 (Int.toNat x1) FV.nilp)) (when ((decide (0 ≤ x8)) && (decide (x8 < (List.length (FV.toSl (List.getD x0 (Int.toNat x1) FV.nilp)) : Int)))) (when (FV.fits 1 false (List.getD (FV.toSl (List.getD x0 (Int.toNat x1) FV.nilp)) (Int.toNat x8) FV.nilp)) (when (FV.isBool (List.getD (FV.toSl (List.getD x0 (Int.toNat x1) FV.nilp)) (Int.toNat x8) FV.nilp)) (ifB (FV.toBool (List.getD (FV.toSl (List.getD x0 (Int.toNat x1) FV.nilp)) (Int.toNat x8) FV.nilp))
   (when ((decide (0 ≤ x2)) && (decide (x2 < (List.length x0 : Int)))) (when (FV.fits 1 false (List.getD x0 (Int.toNat x2) FV.nilp)) (when (FV.isSl (List.getD x0 (Int.toNat x2) FV.nilp)) (when ((decide (0 ≤ x8)) && (decide (x8 < (List.length (FV.toSl (List.getD x0 (Int.toNat x2) FV.nilp)) : Int)))) (when (FV.fits 1 false (List.getD (FV.toSl (List.getD x0 (Int.toNat x2) FV.nilp)) (Int.toNat x8) FV.nilp)) (when (FV.isBool (List.getD (FV.toSl (List.getD x0 (Int.toNat x2) FV.nilp)) (Int.toNat x8) FV.nilp)) (jump w (J_ref01_Join_2_0 R k w n x0 x1 x2 x8 (FV.toBool (List.getD (FV.toSl (List.getD x0 (Int.toNat x2) FV.nilp)) (Int.toNat x8) FV.nilp))))))))))
   (jump w (J_ref01_Join_2_0 R k w n x0 x1 x2 x8 false)))))))))
  (some ((.exit 0), X_ref01_Join_2_0)) := by kernel_rfl
theorem J_ref01_Join_2_0_eq (R : Orc) (k : Nat) (w : Bool) (n : Nat) (x0 : List FV) (x1 : Int) (x2 : Int) (x8 : Int) (x9 : Bool) : J_ref01_Join_2_0 R k w n x0 x1 x2 x8 x9 = onL (L_ref01_Join_1_0 R k w k x0 x1 x2 x8 x9 0) (K_ref01_Join_1 R k w n) := by kernel_rfl
theorem X_ref01_Join_2_0_eq (R : Orc) (k : Nat) (w : Bool) : K_ref01_Join_2 R k w (.exit 0) (X_ref01_Join_2_0) = some ([.fz (FV.sl [])], []) := by kernel_rfl
theorem L_ref01_Join_1_0_eq (R : Orc) (k : Nat) (w : Bool) (n : Nat) (x0 : List FV) (x1 : Int) (x2 : Int) (x8 : Int) (x9 : Bool) (x10 : Int) : L_ref01_Join_1_0 R k w (n + 1) x0 x1 x2 x8 x9 x10 = ifB (decide (x10 < (List.length x0 : Int)))
  (when ((decide (0 ≤ x1)) && (decide (x1 < (List.length x0 : Int)))) (when (FV.fits 1 false (List.getD x0 (Int.toNat x1) FV.nilp)) (when (FV.isSl (List.getD x0 (Int.toNat x1) FV.nilp)) (when ((decide (0 ≤ x10)) && (decide (x10 < (List.length (FV.toSl (List.getD x0 (Int.toNat x1) FV.nilp)) : Int)))) (when (FV.fits 1 false (List.getD (FV.toSl (List.getD x0 (Int.toNat x1) FV.nilp)) (Int.toNat x10) FV.nilp)) (when (FV.isBool (List.getD (FV.toSl (List.getD x0 (Int.toNat x1) FV.nilp)) (Int.toNat x10) FV.nilp)) (ifB (FV.toBool (List.getD (FV.toSl (List.getD x0 (Int.toNat x1) FV.nilp)) (Int.toNat x10) FV.nilp))
   (when ((decide (0 ≤ x2)) && (decide (x2 < (List.length x0 : Int)))) (when (FV.fits 1 false (List.getD x0 (Int.toNat x2) FV.nilp)) (when (FV.isSl (List.getD x0 (Int.toNat x2) FV.nilp)) (when ((decide (0 ≤ x10)) && (decide (x10 < (List.length (FV.toSl (List.getD x0 (Int.toNat x2) FV.nilp)) : Int)))) (when (FV.fits 1 false (List.getD (FV.toSl (List.getD x0 (Int.toNat x2) FV.nilp)) (Int.toNat x10) FV.nilp)) (when (FV.isBool (List.getD (FV.toSl (List.getD x0 (Int.toNat x2) FV.nilp)) (Int.toNat x10) FV.nilp)) (ifB (FV.toBool (List.getD (FV.toSl (List.getD x0 (Int.toNat x2) FV.nilp)) (Int.toNat x10) FV.nilp))
    (when ((decide (0 ≤ x8)) && (decide (x8 < (List.length x0 : Int)))) (when (FV.fits 1 false (List.getD x0 (Int.toNat x8) FV.nilp)) (when (FV.isSl (List.getD x0 (Int.toNat x8) FV.nilp)) (when ((decide (0 ≤ x10)) && (decide (x10 < (List.length (FV.toSl (List.getD x0 (Int.toNat x8) FV.nilp)) : Int)))) (when (FV.fits 1 false (List.getD (FV.toSl (List.getD x0 (Int.toNat x8) FV.nilp)) (Int.toNat x10) FV.nilp)) (when (FV.isBool (List.getD (FV.toSl (List.getD x0 (Int.toNat x8) FV.nilp)) (Int.toNat x10) FV.nilp)) (ifB (!(FV.toBool (List.getD (FV.toSl (List.getD x0 (Int.toNat x8) FV.nilp)) (Int.toNat x10) FV.nilp)))
     (L_ref01_Join_1_0 R k w n x0 x1 x2 x8 false (IntKind.wrap .i64 (x10 + 1)))
     (L_ref01_Join_1_0 R k w n x0 x1 x2 x8 x9 (IntKind.wrap .i64 (x10 + 1))))))))))
    (L_ref01_Join_1_0 R k w n x0 x1 x2 x8 x9 (IntKind.wrap .i64 (x10 + 1))))))))))
   (L_ref01_Join_1_0 R k w n x0 x1 x2 x8 x9 (IntKind.wrap .i64 (x10 + 1))))))))))
  (some ((.exit 2), X_ref01_Join_1_0 x0 x1 x2 x8 x9)) := by kernel_rfl
theorem X_ref01_Join_1_0_eq (R : Orc) (k : Nat) (w : Bool) (n : Nat) (x0 : List FV) (x1 : Int) (x2 : Int) (x8 : Int) (x9 : Bool) : K_ref01_Join_1 R k w n (.exit 2) (X_ref01_Join_1_0 x0 x1 x2 x8 x9) = ifB x9
  (when (decide (((0 : Nat) + List.length [(FV.int .i64 x8)]) * 8 ≤ roomy) && decide ((0 : Nat) + List.length [(FV.int .i64 x8)] ≤ roomy)) (L_ref01_Join_2_1 R k w n x0 x1 x2 (IntKind.wrap .i64 (x8 + 1)) [(FV.int .i64 x8)]))
  (L_ref01_Join_2_0 R k w n x0 x1 x2 (IntKind.wrap .i64 (x8 + 1))) := by kernel_rfl
theorem L_ref01_Join_2_1_eq (R : Orc) (k : Nat) (w : Bool) (n : Nat) (x0 : List FV) (x1 : Int) (x2 : Int) (x8 : Int) (h4096 : List FV) : L_ref01_Join_2_1 R k w (n + 1) x0 x1 x2 x8 h4096 = ifB (decide (x8 < (List.length x0 : Int)))
  (when ((decide (0 ≤ x1)) && (decide (x1 < (List.length x0 : Int)))) (when (FV.fits 1 false (List.getD x0 (Int.toNat x1) FV.nilp)) (when (FV.isSl (List.getD x0 (Int.toNat x1) FV.nilp)) (when ((decide (0 ≤ x8)) && (decide (x8 < (List.length (FV.toSl (List.getD x0 (Int.toNat x1) FV.nilp)) : Int)))) (when (FV.fits 1 false (List.getD (FV.toSl (List.getD x0 (Int.toNat x1) FV.nilp)) (Int.toNat x8) FV.nilp)) (when (FV.isBool (List.getD (FV.toSl (List.getD x0 (Int.toNat x1) FV.nilp)) (Int.toNat x8) FV.nilp)) (ifB (FV.toBool (List.getD (FV.toSl (List.getD x0 (Int.toNat x1) FV.nilp)) (Int.toNat x8) FV.nilp))
   (when ((decide (0 ≤ x2)) && (decide (x2 < (List.length x0 : Int)))) (when (FV.fits 1 false (List.getD x0 (Int.toNat x2) FV.nilp)) (when (FV.isSl (List.getD x0 (Int.toNat x2) FV.nilp)) (when ((decide (0 ≤ x8)) && (decide (x8 < (List.length (FV.toSl (List.getD x0 (Int.toNat x2) FV.nilp)) : Int)))) (when (FV.fits 1 false (List.getD (FV.toSl (List.getD x0 (Int.toNat x2) FV.nilp)) (Int.toNat x8) FV.nilp)) (when (FV.isBool (List.getD (FV.toSl (List.getD x0 (Int.toNat x2) FV.nilp)) (Int.toNat x8) FV.nilp)) (jump w (J_ref01_Join_2_1 R k w n x0 x1 x2 x8 (FV.toBool (List.getD (FV.toSl (List.getD x0 (Int.toNat x2) FV.nilp)) (Int.toNat x8) FV.nilp)) h4096))))))))
   (jump w (J_ref01_Join_2_1 R k w n x0 x1 x2 x8 false h4096)))))))))
  (some ((.exit 0), X_ref01_Join_2_1 h4096)) := by kernel_rfl
theorem J_ref01_Join_2_1_eq (R : Orc) (k : Nat) (w : Bool) (n : Nat) (x0 : List FV) (x1 : Int) (x2 : Int) (x8 : Int) (x9 : Bool) (h4096 : List FV) : J_ref01_Join_2_1 R k w n x0 x1 x2 x8 x9 h4096 = onL (L_ref01_Join_1_1 R k w k x0 x1 x2 x8 x9 0 h4096) (K_ref01_Join_1 R k w n) := by kernel_rfl
theorem X_ref01_Join_2_1_eq (R : Orc) (k : Nat) (w : Bool) (h4096 : List FV) : K_ref01_Join_2 R k w (.exit 0) (X_ref01_Join_2_1 h4096) = some ([.fz (FV.sl h4096)], []) := by kernel_rfl
theorem L_ref01_Join_1_1_eq (R : Orc) (k : Nat) (w : Bool) (n : Nat) (x0 : List FV) (x1 : Int) (x2 : Int) (x8 : Int) (x9 : Bool) (x10 : Int) (h4096 : List FV) : L_ref01_Join_1_1 R k w (n + 1) x0 x1 x2 x8 x9 x10 h4096 = ifB (decide (x10 < (List.length x0 : Int)))
  (when ((decide (0 ≤ x1)) && (decide (x1 < (List.length x0 : Int)))) (when (FV.fits 1 false (List.getD x0 (Int.toNat x1) FV.nilp)) (when (FV.isSl (List.getD x0 (Int.toNat x1) FV.nilp)) (when ((decide (0 ≤ x10)) && (decide (x10 < (List.length (FV.toSl (List.getD x0 (Int.toNat x1) FV.nilp)) : Int)))) (when (FV.fits 1 false (List.getD (FV.toSl (List.getD x0 (Int.toNat x1) FV.nilp)) (Int.toNat x10) FV.nilp)) (when (FV.isBool (List.getD (FV.toSl (List.getD x0 (Int.toNat x1) FV.nilp)) (Int.toNat x10) FV.nilp)) (ifB (FV.toBool (List.getD (FV.toSl (List.getD x0 (Int.toNat x1) FV.nilp)) (Int.toNat x10) FV.nilp))
   (when ((decide (0 ≤ x2)) && (decide (x2 < (List.length x0 : Int)))) (when (FV.fits 1 false (List.getD x0 (Int.toNat x2) FV.nilp)) (when (FV.isSl (List.getD x0 (Int.toNat x2) FV.nilp)) (when ((decide (0 ≤ x10)) && (decide (x10 < (List.length (FV.toSl (List.getD x0 (Int.toNat x2) FV.nilp)) : Int)))) (when (FV.fits 1 false (List.getD (FV.toSl (List.getD x0 (Int.toNat x2) FV.nilp)) (Int.toNat x10) FV.nilp)) (when (FV.isBool (List.getD (FV.toSl (List.getD x0 (Int.toNat x2) FV.nilp)) (Int.toNat x10) FV.nilp)) (ifB (FV.toBool (List.getD (FV.toSl (List.getD x0 (Int.toNat x2) FV.nilp)) (Int.toNat x10) FV.nilp))
    (when ((decide (0 ≤ x8)) && (decide (x8 < (List.length x0 : Int)))) (when (FV.fits 1 false (List.getD x0 (Int.toNat x8) FV.nilp)) (when (FV.isSl (List.getD x0 (Int.toNat x8) FV.nilp)) (when ((decide (0 ≤ x10)) && (decide (x10 < (List.length (FV.toSl (List.getD x0 (Int.toNat x8) FV.nilp)) : Int)))) (when (FV.fits 1 false (List.getD (FV.toSl (List.getD x0 (Int.toNat x8) FV.nilp)) (Int.toNat x10) FV.nilp)) (when (FV.isBool (List.getD (FV.toSl (List.getD x0 (Int.toNat x8) FV.nilp)) (Int.toNat x10) FV.nilp)) (ifB (!(FV.toBool (List.getD (FV.toSl (List.getD x0 (Int.toNat x8) FV.nilp)) (Int.toNat x10) FV.nilp)))
     (L_ref01_Join_1_1 R k w n x0 x1 x2 x8 false (IntKind.wrap .i64 (x10 + 1)) h4096)
     (L_ref01_Join_1_1 R k w n x0 x1 x2 x8 x9 (IntKind.wrap .i64 (x10 + 1)) h4096))))))))
    (L_ref01_Join_1_1 R k w n x0 x1 x2 x8 x9 (IntKind.wrap .i64 (x10 + 1)) h4096))))))))
   (L_ref01_Join_1_1 R k w n x0 x1 x2 x8 x9 (IntKind.wrap .i64 (x10 + 1)) h4096))))))))
  (some ((.exit 2), X_ref01_Join_1_1 x0 x1 x2 x8 x9 h4096)) := by kernel_rfl
theorem X_ref01_Join_1_1_eq (R : Orc) (k : Nat) (w : Bool) (n : Nat) (x0 : List FV) (x1 : Int) (x2 : Int) (x8 : Int) (x9 : Bool) (h4096 : List FV) : K_ref01_Join_1 R k w n (.exit 2) (X_ref01_Join_1_1 x0 x1 x2 x8 x9 h4096) = ifB x9
  (when (decide ((List.length h4096 + List.length [(FV.int .i64 x8)]) * 8 ≤ roomy) && decide (List.length h4096 + List.length [(FV.int .i64 x8)] ≤ roomy)) (L_ref01_Join_2_1 R k w n x0 x1 x2 (IntKind.wrap .i64 (x8 + 1)) (h4096 ++ [(FV.int .i64 x8)])))
  (L_ref01_Join_2_1 R k w n x0 x1 x2 (IntKind.wrap .i64 (x8 + 1)) h4096) := by kernel_rfl
/-! keyhole/node.fits -/
def A_node_fits_j1 : ACode := .cond (.t 20) (.seq (.region [⟨(some 23), .load 8 true (.t 1), none, none⟩,
   ⟨(some 24), .call N_node_bare [((.t 23), .fz), ((.c (.fz (.bool false))), .fz), ((.c (.fz (.bool true))), .fz), ((.c (.fz (.bool false))), .fz), ((.c (.fz (.bool false))), .fz)] [.fz], none, some .bool⟩,
   ⟨(some 25), .mov (.t 24), none, some .bool⟩,
   ⟨(some 26), .fadr 5 (.t 1), (some (25, true)), none⟩,
   ⟨(some 27), .load 1 false (.t 26), (some (25, true)), some .str⟩,
   ⟨(some 28), .call N_utf_Valid [((.t 27), .fz)] [.fz], (some (25, true)), some .bool⟩,
   ⟨(some 29), .pick (.t 25) (.t 28) (.c (.fz (.bool false))), none, some .bool⟩,
   ⟨(some 2), .mov (.t 29), none, some .bool⟩])
  (.ret))
 (.seq (.region [⟨(some 31), .binI .eql .i64 (.t 4) (.c (.fz (.int .i64 5))), none, some .bool⟩,
   ⟨(some 30), .mov (.t 31), none, some .bool⟩])
  (.cond (.t 30) (.seq (.region [⟨(some 32), .load 8 true (.t 1), none, none⟩,
     ⟨(some 33), .call N_node_bare [((.t 32), .fz), ((.c (.fz (.bool false))), .fz), ((.c (.fz (.bool false))), .fz), ((.c (.fz (.bool true))), .fz), ((.c (.fz (.bool false))), .fz)] [.fz], none, some .bool⟩,
     ⟨(some 2), .mov (.t 33), none, some .bool⟩])
    (.ret))
   (.seq (.region [⟨(some 35), .binI .eql .i64 (.t 4) (.c (.fz (.int .i64 6))), none, some .bool⟩,
     ⟨(some 34), .mov (.t 35), none, some .bool⟩])
    (.cond (.t 34) (.seq (.region [⟨(some 36), .load 8 true (.t 1), none, none⟩,
       ⟨(some 37), .call N_node_bare [((.t 36), .fz), ((.c (.fz (.bool false))), .fz), ((.c (.fz (.bool false))), .fz), ((.c (.fz (.bool true))), .fz), ((.c (.fz (.bool true))), .fz)] [.fz], none, some .bool⟩,
       ⟨(some 38), .mov (.t 37), none, some .bool⟩,
       ⟨(some 39), .fadr 7 (.t 1), (some (38, true)), none⟩,
       ⟨(some 40), .load 1 false (.t 39), (some (38, true)), none⟩,
       ⟨(some 41), .len (.sl 1 false) (.t 40), (some (38, true)), some (.int .i64)⟩,
       ⟨(some 42), .fadr 6 (.t 1), (some (38, true)), none⟩,
       ⟨(some 43), .load 1 false (.t 42), (some (38, true)), none⟩,
       ⟨(some 44), .len (.sl 8 true) (.t 43), (some (38, true)), some (.int .i64)⟩,
       ⟨(some 45), .binI .eql .i64 (.t 41) (.t 44), (some (38, true)), some .bool⟩,
       ⟨(some 46), .pick (.t 38) (.t 45) (.c (.fz (.bool false))), none, some .bool⟩,
       ⟨(some 47), .mov (.t 46), none, some .bool⟩,
       ⟨(some 48), .fadr 7 (.t 1), (some (47, true)), none⟩,
       ⟨(some 49), .load 1 false (.t 48), (some (47, true)), none⟩,
       ⟨(some 50), .call N_node_rising [((.t 49), .fz)] [.fz], (some (47, true)), some .bool⟩,
       ⟨(some 51), .pick (.t 47) (.t 50) (.c (.fz (.bool false))), none, some .bool⟩,
       ⟨(some 2), .mov (.t 51), none, some .bool⟩])
      (.ret))
     (.skip)))))
def A_node_fits_j2 : ACode := .cond (.t 5) (.seq (.region [⟨(some 9), .load 8 true (.t 1), none, none⟩,
   ⟨(some 10), .call N_node_bare [((.t 9), .fz), ((.c (.fz (.bool false))), .fz), ((.c (.fz (.bool false))), .fz), ((.c (.fz (.bool false))), .fz), ((.c (.fz (.bool false))), .fz)] [.fz], none, some .bool⟩,
   ⟨(some 2), .mov (.t 10), none, some .bool⟩])
  (.ret))
 (.seq (.region [⟨(some 12), .binI .eql .i64 (.t 4) (.c (.fz (.int .i64 3))), none, some .bool⟩,
   ⟨(some 11), .mov (.t 12), none, some .bool⟩])
  (.cond (.t 11) (.seq (.region [⟨(some 13), .load 8 true (.t 1), none, none⟩,
     ⟨(some 14), .call N_node_bare [((.t 13), .fz), ((.c (.fz (.bool true))), .fz), ((.c (.fz (.bool false))), .fz), ((.c (.fz (.bool false))), .fz), ((.c (.fz (.bool false))), .fz)] [.fz], none, some .bool⟩,
     ⟨(some 15), .mov (.t 14), none, some .bool⟩,
     ⟨(some 16), .fadr 3 (.t 1), (some (15, true)), none⟩,
     ⟨(some 17), .load 2 true (.t 16), (some (15, true)), none⟩,
     ⟨(some 18), .call N_num_Is [((.t 17), .fz)] [.fz], (some (15, true)), some .bool⟩,
     ⟨(some 19), .pick (.t 15) (.t 18) (.c (.fz (.bool false))), none, some .bool⟩,
     ⟨(some 2), .mov (.t 19), none, some .bool⟩])
    (.ret))
   (.seq (.seq (.region [⟨(some 21), .binI .eql .i64 (.t 4) (.c (.fz (.int .i64 4))), none, some .bool⟩,
      ⟨(some 20), .mov (.t 21), none, some .bool⟩])
     (.cond (.t 20) (.skip)
      (.region [⟨(some 22), .binI .eql .i64 (.t 4) (.c (.fz (.int .i64 7))), none, some .bool⟩,
       ⟨(some 20), .mov (.t 22), none, some .bool⟩])))
    (.trim [1, 4, 20] A_node_fits_j1))))
def A_node_fits_s3 : ACode := .seq (.region [⟨(some 2), .mov (.c (.fz (.bool false))), none, some .bool⟩])
 (.ret)
def A_node_fits : AFunc := ⟨1, [(.tmp 2, .fz)], .seq (.region [⟨(some 1), .box 8 true (.t 0), none, none⟩,
  ⟨(some 2), .mov (.c (.fz (.bool false))), none, some .bool⟩])
 (.seq (.seq (.region [⟨(some 3), .fadr 2 (.t 1), none, none⟩,
    ⟨(some 4), .load 1 false (.t 3), none, some (.int .i64)⟩])
   (.block 0 (.seq (.seq (.region [⟨(some 6), .binI .eql .i64 (.t 4) (.c (.fz (.int .i64 0))), none, some .bool⟩,
       ⟨(some 5), .mov (.t 6), none, some .bool⟩])
      (.cond (.t 5) (.skip)
       (.seq (.region [⟨(some 7), .binI .eql .i64 (.t 4) (.c (.fz (.int .i64 1))), none, some .bool⟩,
         ⟨(some 5), .mov (.t 7), none, some .bool⟩])
        (.cond (.t 5) (.skip)
         (.region [⟨(some 8), .binI .eql .i64 (.t 4) (.c (.fz (.int .i64 2))), none, some .bool⟩,
          ⟨(some 5), .mov (.t 8), none, some .bool⟩])))))
     (.trim [1, 4, 5] A_node_fits_j2))))
  A_node_fits_s3)⟩
def J_node_fits_2_0 (R : Orc) (k : Nat) (w : Bool) (x4 : Int) (x5 : Bool) (h4096_0 : Int) (h4096_1 : Int) (h4096_2 : Int) (h4096_3 : Int) (h4096_4 : Int) (h4096_5 : ByteArray) (h4096_6 : List FV) (h4096_7 : List FV) := execL R k w [] A_node_fits_j2 Ans ⟨[(1, .ptr 4096 0 0), (4, .fz (FV.int .i64 x4)), (5, .fz (FV.bool x5))], [(4095, .dead), (4096, .var 8 true (.fz (FV.ag [(FV.int .i64 h4096_0), (FV.int .i64 h4096_1), (FV.int .i64 h4096_2), (FV.int .i64 h4096_3), (FV.int .i64 h4096_4), (FV.str h4096_5), (FV.sl h4096_6), (FV.sl h4096_7)])))]⟩ (kBlk 0 (kSeq R k w [] A_node_fits_s3 (kFin R [(.tmp 2, .fz)] [])))
def J_node_fits_1_0 (R : Orc) (k : Nat) (w : Bool) (x4 : Int) (x20 : Bool) (h4096_0 : Int) (h4096_1 : Int) (h4096_2 : Int) (h4096_3 : Int) (h4096_4 : Int) (h4096_5 : ByteArray) (h4096_6 : List FV) (h4096_7 : List FV) := execL R k w [] A_node_fits_j1 Ans ⟨[(1, .ptr 4096 0 0), (4, .fz (FV.int .i64 x4)), (20, .fz (FV.bool x20))], [(4095, .dead), (4096, .var 8 true (.fz (FV.ag [(FV.int .i64 h4096_0), (FV.int .i64 h4096_1), (FV.int .i64 h4096_2), (FV.int .i64 h4096_3), (FV.int .i64 h4096_4), (FV.str h4096_5), (FV.sl h4096_6), (FV.sl h4096_7)])))]⟩ (kBlk 0 (kSeq R k w [] A_node_fits_s3 (kFin R [(.tmp 2, .fz)] [])))
theorem E_node_fits (R : Orc) (k : Nat) (w : Bool) (a0_0 : Int) (a0_1 : Int) (a0_2 : Int) (a0_3_0 : Int) (a0_3_1 : Int) (a0_4 : ByteArray) (a0_5 : List FV) (a0_6 : List FV) : callL R k w A_node_fits [.fz (FV.ag [(FV.int .i64 a0_0), (FV.int .i64 a0_1), (FV.int .i64 a0_2), (FV.int .i64 a0_3_0), (FV.int .i64 a0_3_1), (FV.str a0_4), (FV.sl a0_5), (FV.sl a0_6)])] = ifB (a0_2 == 0)
  (jump w (J_node_fits_2_0 R k w a0_2 true a0_0 a0_1 a0_2 a0_3_0 a0_3_1 a0_4 a0_5 a0_6))
  (ifB (a0_2 == 1)
   (jump w (J_node_fits_2_0 R k w a0_2 true a0_0 a0_1 a0_2 a0_3_0 a0_3_1 a0_4 a0_5 a0_6))
   (jump w (J_node_fits_2_0 R k w a0_2 (a0_2 == 2) a0_0 a0_1 a0_2 a0_3_0 a0_3_1 a0_4 a0_5 a0_6))) := by kernel_rfl
theorem J_node_fits_2_0_eq (R : Orc) (k : Nat) (w : Bool) (x4 : Int) (x5 : Bool) (h4096_0 : Int) (h4096_1 : Int) (h4096_2 : Int) (h4096_3 : Int) (h4096_4 : Int) (h4096_5 : ByteArray) (h4096_6 : List FV) (h4096_7 : List FV) : J_node_fits_2_0 R k w x4 x5 h4096_0 h4096_1 h4096_2 h4096_3 h4096_4 h4096_5 h4096_6 h4096_7 = ifB x5
  (onR (R N_node_bare [.fz (FV.ag [(FV.int .i64 h4096_0), (FV.int .i64 h4096_1), (FV.int .i64 h4096_2), (FV.int .i64 h4096_3), (FV.int .i64 h4096_4), (FV.str h4096_5), (FV.sl h4096_6), (FV.sl h4096_7)]), .fz (FV.bool false), .fz (FV.bool false), .fz (FV.bool false), .fz (FV.bool false)]) fun r0 => when (List.isEmpty r0.2 && allF [.fz] r0.1) (when (FV.isBool (TV.toF (List.getD r0.1 0 TV.em))) (some ([.fz (FV.bool (FV.toBool (TV.toF (List.getD r0.1 0 TV.em))))], []))))
  (ifB (x4 == 3)
   (onR (R N_node_bare [.fz (FV.ag [(FV.int .i64 h4096_0), (FV.int .i64 h4096_1), (FV.int .i64 h4096_2), (FV.int .i64 h4096_3), (FV.int .i64 h4096_4), (FV.str h4096_5), (FV.sl h4096_6), (FV.sl h4096_7)]), .fz (FV.bool true), .fz (FV.bool false), .fz (FV.bool false), .fz (FV.bool false)]) fun r1 => when (List.isEmpty r1.2 && allF [.fz] r1.1) (when (FV.isBool (TV.toF (List.getD r1.1 0 TV.em))) (ifB (FV.toBool (TV.toF (List.getD r1.1 0 TV.em)))
    (onR (R N_num_Is [.fz (FV.ag [(FV.int .i64 h4096_3), (FV.int .i64 h4096_4)])]) fun r2 => when (List.isEmpty r2.2 && allF [.fz] r2.1) (when (FV.isBool (TV.toF (List.getD r2.1 0 TV.em))) (some ([.fz (FV.bool (FV.toBool (TV.toF (List.getD r2.1 0 TV.em))))], []))))
    (some ([.fz (FV.bool false)], [])))))
   (ifB (x4 == 4)
    (jump w (J_node_fits_1_0 R k w x4 true h4096_0 h4096_1 h4096_2 h4096_3 h4096_4 h4096_5 h4096_6 h4096_7))
    (jump w (J_node_fits_1_0 R k w x4 (x4 == 7) h4096_0 h4096_1 h4096_2 h4096_3 h4096_4 h4096_5 h4096_6 h4096_7)))) := by kernel_rfl
theorem J_node_fits_1_0_eq (R : Orc) (k : Nat) (w : Bool) (x4 : Int) (x20 : Bool) (h4096_0 : Int) (h4096_1 : Int) (h4096_2 : Int) (h4096_3 : Int) (h4096_4 : Int) (h4096_5 : ByteArray) (h4096_6 : List FV) (h4096_7 : List FV) : J_node_fits_1_0 R k w x4 x20 h4096_0 h4096_1 h4096_2 h4096_3 h4096_4 h4096_5 h4096_6 h4096_7 = ifB x20
  (onR (R N_node_bare [.fz (FV.ag [(FV.int .i64 h4096_0), (FV.int .i64 h4096_1), (FV.int .i64 h4096_2), (FV.int .i64 h4096_3), (FV.int .i64 h4096_4), (FV.str h4096_5), (FV.sl h4096_6), (FV.sl h4096_7)]), .fz (FV.bool false), .fz (FV.bool true), .fz (FV.bool false), .fz (FV.bool false)]) fun r3 => when (List.isEmpty r3.2 && allF [.fz] r3.1) (when (FV.isBool (TV.toF (List.getD r3.1 0 TV.em))) (ifB (FV.toBool (TV.toF (List.getD r3.1 0 TV.em)))
   (onR (R N_utf_Valid [.fz (FV.str h4096_5)]) fun r4 => when (List.isEmpty r4.2 && allF [.fz] r4.1) (when (FV.isBool (TV.toF (List.getD r4.1 0 TV.em))) (some ([.fz (FV.bool (FV.toBool (TV.toF (List.getD r4.1 0 TV.em))))], []))))
   (some ([.fz (FV.bool false)], [])))))
  (ifB (x4 == 5)
   (onR (R N_node_bare [.fz (FV.ag [(FV.int .i64 h4096_0), (FV.int .i64 h4096_1), (FV.int .i64 h4096_2), (FV.int .i64 h4096_3), (FV.int .i64 h4096_4), (FV.str h4096_5), (FV.sl h4096_6), (FV.sl h4096_7)]), .fz (FV.bool false), .fz (FV.bool false), .fz (FV.bool true), .fz (FV.bool false)]) fun r5 => when (List.isEmpty r5.2 && allF [.fz] r5.1) (when (FV.isBool (TV.toF (List.getD r5.1 0 TV.em))) (some ([.fz (FV.bool (FV.toBool (TV.toF (List.getD r5.1 0 TV.em))))], []))))
   (ifB (x4 == 6)
    (onR (R N_node_bare [.fz (FV.ag [(FV.int .i64 h4096_0), (FV.int .i64 h4096_1), (FV.int .i64 h4096_2), (FV.int .i64 h4096_3), (FV.int .i64 h4096_4), (FV.str h4096_5), (FV.sl h4096_6), (FV.sl h4096_7)]), .fz (FV.bool false), .fz (FV.bool false), .fz (FV.bool true), .fz (FV.bool true)]) fun r6 => when (List.isEmpty r6.2 && allF [.fz] r6.1) (when (FV.isBool (TV.toF (List.getD r6.1 0 TV.em))) (ifB (FV.toBool (TV.toF (List.getD r6.1 0 TV.em)))
     (ifB ((List.length h4096_7 : Int) == (List.length h4096_6 : Int))
      (onR (R N_node_rising [.fz (FV.sl h4096_7)]) fun r7 => when (List.isEmpty r7.2 && allF [.fz] r7.1) (when (FV.isBool (TV.toF (List.getD r7.1 0 TV.em))) (some ([.fz (FV.bool (FV.toBool (TV.toF (List.getD r7.1 0 TV.em))))], []))))
      (some ([.fz (FV.bool false)], [])))
     (some ([.fz (FV.bool false)], [])))))
    (some ([.fz (FV.bool false)], [])))) := by kernel_rfl
/-! keyhole/node.deep -/
def A_node_deep_b1 : ACode := .seq (.region [⟨(some 12), .binI .lss .i64 (.t 11) (.t 10), none, none⟩])
 (.seq (.cond (.t 12) (.skip)
   (.exit 0))
  (.seq (.block 1 (.seq (.region [⟨(some 13), .iadr (.sl 8 true) (.t 9) (.t 11), none, none⟩,
      ⟨(some 14), .load 8 true (.t 13), none, none⟩,
      ⟨(some 8), .alloc 8 true (.ag [.fz (.int .i64 0), .fz (.int .i64 0), .fz (.int .i64 0), .fz (.int .i64 0), .fz (.int .i64 0), .fz (.str ⟨#[]⟩), .nils, .nils]), none, none⟩,
      ⟨none, .store 8 true (.t 8) (.t 14), none, none⟩])
     (.region [⟨(some 15), .mov (.t 0), none, none⟩,
      ⟨(some 16), .mov (.t 1), none, some (.int .i64)⟩,
      ⟨(some 17), .fadr 0 (.t 8), none, none⟩,
      ⟨(some 18), .load 1 false (.t 17), none, some (.int .i64)⟩,
      ⟨(some 19), .fadr 1 (.t 8), none, none⟩,
      ⟨(some 20), .load 1 false (.t 19), none, some (.int .i64)⟩,
      ⟨(some 21), .buildSl 1 false 2 (.int .i64 0) [(0, (.t 18)), (1, (.t 20))], none, none⟩,
      ⟨(some 22), .call N_node_join [((.t 15), .fz), ((.t 16), .fz), ((.t 21), .fz)] [.fz], none, some (.int .i64)⟩,
      ⟨(some 1), .mov (.t 22), none, some (.int .i64)⟩])))
   (.region [⟨(some 23), .binI .add .i64 (.t 11) (.c (.fz (.int .i64 1))), none, some (.int .i64)⟩,
    ⟨(some 11), .mov (.t 23), none, some (.int .i64)⟩])))
def A_node_deep_s1 : ACode := .seq (.region [⟨(some 24), .mov (.t 1), none, some (.int .i64)⟩,
  ⟨(some 6), .mov (.t 24), none, some (.int .i64)⟩])
 (.ret)
def A_node_deep : AFunc := ⟨3, [(.tmp 6, .fz)], .seq (.region [⟨(some 6), .mov (.c (.fz (.int .i64 0))), none, some (.int .i64)⟩])
 (.seq (.seq (.region [⟨(some 9), .mov (.t 2), none, none⟩,
    ⟨(some 10), .len (.sl 8 true) (.t 9), none, some (.int .i64)⟩,
    ⟨(some 11), .mov (.c (.fz (.int .i64 0))), none, some (.int .i64)⟩])
   (.block 0 (.loop [0, 1, 9, 10, 11] [1] A_node_deep_b1)))
  A_node_deep_s1)⟩
def K_node_deep_1 (R : Orc) (k : Nat) (w : Bool) : AExit → St → Option Ans := (kBlk 0 (kSeq R k w [] A_node_deep_s1 (kFin R [(.tmp 6, .fz)] [])))
def L_node_deep_1_0 (R : Orc) (k : Nat) (w : Bool) (n : Nat) (x0e : FV) (x1 : Int) (x9 : List FV) (x10 : Int) (x11 : Int) := loopL R k w [] [0, 1, 9, 10, 11] [1] A_node_deep_b1 n ⟨[(0, .fz (FV.pt 195 true x0e 0)), (1, .fz (FV.int .i64 x1)), (9, .fz (FV.sl x9)), (10, .fz (FV.int .i64 x10)), (11, .fz (FV.int .i64 x11))], [(4095, .dead)]⟩
def X_node_deep_1_0 (x1 : Int) : St := ⟨[(1, .fz (FV.int .i64 x1))], [(4095, .dead)]⟩
theorem E_node_deep (R : Orc) (k : Nat) (w : Bool) (a0 : FV) (a1 : Int) (a2 : List FV) : callL R k w A_node_deep [.fz (FV.pt 195 true a0 0), .fz (FV.int .i64 a1), .fz (FV.sl a2)] = onL (L_node_deep_1_0 R k w k a0 a1 a2 (List.length a2 : Int) 0) (K_node_deep_1 R k w) := by kernel_rfl
theorem L_node_deep_1_0_eq (R : Orc) (k : Nat) (w : Bool) (n : Nat) (x0e : FV) (x1 : Int) (x9 : List FV) (x10 : Int) (x11 : Int) : L_node_deep_1_0 R k w (n + 1) x0e x1 x9 x10 x11 = ifB (decide (x11 < x10))
  (when ((decide (0 ≤ x11)) && (decide (x11 < (List.length x9 : Int)))) (when (FV.fits 8 true (List.getD x9 (Int.toNat x11) FV.nilp)) (when (FV.fits 8 true (List.getD x9 (Int.toNat x11) FV.nilp)) (when (FV.isAg 8 (List.getD x9 (Int.toNat x11) FV.nilp)) (when (FV.isInt .i64 (FV.cell (List.getD x9 (Int.toNat x11) FV.nilp) 0)) (when (FV.isAg 8 (List.getD x9 (Int.toNat x11) FV.nilp)) (when (FV.isInt .i64 (FV.cell (List.getD x9 (Int.toNat x11) FV.nilp) 1)) (onR (R N_node_join [.fz (FV.pt 195 true x0e 0), .fz (FV.int .i64 x1), .fz (FV.sl [(FV.int .i64 (FV.toInt (FV.cell (List.getD x9 (Int.toNat x11) FV.nilp) 0))), (FV.int .i64 (FV.toInt (FV.cell (List.getD x9 (Int.toNat x11) FV.nilp) 1)))])]) fun r0 => when (List.isEmpty r0.2 && allF [.fz] r0.1) (when (FV.isInt .i64 (TV.toF (List.getD r0.1 0 TV.em))) (L_node_deep_1_0 R k w n x0e (FV.toInt (TV.toF (List.getD r0.1 0 TV.em))) x9 x10 (IntKind.wrap .i64 (x11 + 1))))))))))))
  (some ((.exit 0), X_node_deep_1_0 x1)) := by kernel_rfl
theorem X_node_deep_1_0_eq (R : Orc) (k : Nat) (w : Bool) (x1 : Int) : K_node_deep_1 R k w (.exit 0) (X_node_deep_1_0 x1) = some ([.fz (FV.int .i64 x1)], []) := by kernel_rfl
/-! keyhole/level.named -/
def A_level_named_b1 : ACode := .seq (.region [⟨(some 30), .binI .lss .i64 (.t 29) (.t 28), none, none⟩])
 (.seq (.cond (.t 30) (.skip)
   (.exit 2))
  (.seq (.block 3 (.seq (.region [⟨(some 31), .iadr (.sl 1 false) (.t 27) (.t 29), none, none⟩,
      ⟨(some 32), .load 1 false (.t 31), none, some .str⟩,
      ⟨(some 6), .mov (.t 32), none, some .str⟩])
     (.seq (.region [⟨(some 33), .mov (.t 4), none, some .str⟩,
       ⟨(some 34), .mov (.t 6), none, some .str⟩,
       ⟨(some 35), .binS .eql (.t 33) (.t 34), none, some .bool⟩])
      (.cond (.t 35) (.seq (.region [⟨(some 2), .mov (.c (.fz (.bool false))), none, some .bool⟩])
        (.ret))
       (.skip)))))
   (.region [⟨(some 36), .binI .add .i64 (.t 29) (.c (.fz (.int .i64 1))), none, some (.int .i64)⟩,
    ⟨(some 29), .mov (.t 36), none, some (.int .i64)⟩])))
def A_level_named_s1 : ACode := .region [⟨(some 37), .binI .add .i64 (.t 17) (.c (.fz (.int .i64 1))), none, some (.int .i64)⟩,
 ⟨(some 17), .mov (.t 37), none, some (.int .i64)⟩]
def A_level_named_b2 : ACode := .seq (.region [⟨(some 18), .binI .lss .i64 (.t 17) (.t 16), none, none⟩])
 (.seq (.cond (.t 18) (.skip)
   (.exit 0))
  (.seq (.block 1 (.seq (.region [⟨(some 19), .mov (.t 17), none, some (.int .i64)⟩,
      ⟨(some 20), .iadr (.sl 1 false) (.t 15) (.t 17), none, none⟩,
      ⟨(some 21), .load 1 false (.t 20), none, some .str⟩,
      ⟨(some 3), .mov (.t 19), none, some (.int .i64)⟩,
      ⟨(some 4), .mov (.t 21), none, some .str⟩])
     (.seq (.seq (.region [⟨(some 22), .mov (.t 4), none, some .str⟩,
        ⟨(some 23), .call N_level_Name [((.t 22), .fz)] [.fz], none, some .bool⟩,
        ⟨(some 24), .notB (.t 23), none, some .bool⟩])
       (.cond (.t 24) (.seq (.region [⟨(some 2), .mov (.c (.fz (.bool false))), none, some .bool⟩])
         (.ret))
        (.skip)))
      (.seq (.region [⟨(some 25), .mov (.t 0), none, none⟩,
        ⟨(some 26), .mov (.t 3), none, some (.int .i64)⟩,
        ⟨(some 27), .slice (.sl 1 false) (.t 25) none (some (.t 26)) none, none, none⟩,
        ⟨(some 28), .len (.sl 1 false) (.t 27), none, some (.int .i64)⟩,
        ⟨(some 29), .mov (.c (.fz (.int .i64 0))), none, some (.int .i64)⟩])
       (.block 2 (.loop [0, 4, 15, 16, 17, 27, 28, 29] [0, 2, 15, 16, 17] A_level_named_b1))))))
   A_level_named_s1))
def A_level_named_s2 : ACode := .seq (.region [⟨(some 2), .mov (.c (.fz (.bool true))), none, some .bool⟩])
 (.ret)
def A_level_named_j3 : ACode := .seq (.seq (.region [⟨(some 15), .mov (.t 0), none, none⟩,
   ⟨(some 16), .len (.sl 1 false) (.t 15), none, some (.int .i64)⟩,
   ⟨(some 17), .mov (.c (.fz (.int .i64 0))), none, some (.int .i64)⟩])
  (.block 0 (.loop [0, 15, 16, 17] [2] A_level_named_b2)))
 A_level_named_s2
def A_level_named : AFunc := ⟨1, [(.tmp 2, .fz)], .seq (.region [⟨(some 2), .mov (.c (.fz (.bool false))), none, some .bool⟩])
 (.seq (.seq (.region [⟨(some 7), .mov (.t 0), none, none⟩,
    ⟨(some 8), .len (.sl 1 false) (.t 7), none, some (.int .i64)⟩,
    ⟨(some 9), .binI .lss .i64 (.t 8) (.c (.fz (.int .i64 1))), none, some .bool⟩,
    ⟨(some 10), .mov (.t 9), none, some .bool⟩,
    ⟨(some 11), .mov (.t 0), (some (10, false)), none⟩,
    ⟨(some 12), .len (.sl 1 false) (.t 11), (some (10, false)), some (.int .i64)⟩,
    ⟨(some 13), .binI .gtr .i64 (.t 12) (.c (.fz (.int .i64 8))), (some (10, false)), some .bool⟩,
    ⟨(some 14), .pick (.t 10) (.c (.fz (.bool true))) (.t 13), none, some .bool⟩])
   (.cond (.t 14) (.seq (.region [⟨(some 2), .mov (.c (.fz (.bool false))), none, some .bool⟩])
     (.ret))
    (.skip)))
  (.trim [0] A_level_named_j3))⟩
def J_level_named_3_0 (R : Orc) (k : Nat) (w : Bool) (x0 : List FV) := execL R k w [] A_level_named_j3 Ans ⟨[(0, .fz (FV.sl x0))], [(4095, .dead)]⟩ (kFin R [(.tmp 2, .fz)] [])
def K_level_named_2 (R : Orc) (k : Nat) (w : Bool) : AExit → St → Option Ans := (kBlk 0 (kSeq R k w [] A_level_named_s2 (kFin R [(.tmp 2, .fz)] [])))
def L_level_named_2_0 (R : Orc) (k : Nat) (w : Bool) (n : Nat) (x0 : List FV) (x15 : List FV) (x16 : Int) (x17 : Int) := loopL R k w [] [0, 15, 16, 17] [2] A_level_named_b2 n ⟨[(0, .fz (FV.sl x0)), (15, .fz (FV.sl x15)), (16, .fz (FV.int .i64 x16)), (17, .fz (FV.int .i64 x17))], [(4095, .dead)]⟩
def X_level_named_2_0 (x2 : Bool) : St := ⟨[(2, .fz (FV.bool x2))], [(4095, .dead)]⟩
def K_level_named_1 (R : Orc) (k : Nat) (w : Bool) (n : Nat) : AExit → St → Option (AExit × St) := (kBlk 2 (kBlk 1 (kSeq R k w [] A_level_named_s1 (kLoop R k w [] [0, 15, 16, 17] [2] A_level_named_b2 n))))
def L_level_named_1_0 (R : Orc) (k : Nat) (w : Bool) (n : Nat) (x0 : List FV) (x4 : ByteArray) (x15 : List FV) (x16 : Int) (x17 : Int) (x27 : List FV) (x28 : Int) (x29 : Int) := loopL R k w [] [0, 4, 15, 16, 17, 27, 28, 29] [0, 2, 15, 16, 17] A_level_named_b1 n ⟨[(0, .fz (FV.sl x0)), (4, .fz (FV.str x4)), (15, .fz (FV.sl x15)), (16, .fz (FV.int .i64 x16)), (17, .fz (FV.int .i64 x17)), (27, .fz (FV.sl x27)), (28, .fz (FV.int .i64 x28)), (29, .fz (FV.int .i64 x29))], [(4095, .dead)]⟩
def X_level_named_2_1 : St := ⟨[], [(4095, .dead)]⟩
def X_level_named_1_0 (x0 : List FV) (x2 : Bool) (x15 : List FV) (x16 : Int) (x17 : Int) : St := ⟨[(0, .fz (FV.sl x0)), (2, .fz (FV.bool x2)), (15, .fz (FV.sl x15)), (16, .fz (FV.int .i64 x16)), (17, .fz (FV.int .i64 x17))], [(4095, .dead)]⟩
def X_level_named_1_1 (x0 : List FV) (x15 : List FV) (x16 : Int) (x17 : Int) : St := ⟨[(0, .fz (FV.sl x0)), (15, .fz (FV.sl x15)), (16, .fz (FV.int .i64 x16)), (17, .fz (FV.int .i64 x17))], [(4095, .dead)]⟩
theorem E_level_named (R : Orc) (k : Nat) (w : Bool) (a0 : List FV) : callL R k w A_level_named [.fz (FV.sl a0)] = ifB (decide ((List.length a0 : Int) < 1))
  (some ([.fz (FV.bool false)], []))
  (ifB (decide ((List.length a0 : Int) > 8))
   (some ([.fz (FV.bool false)], []))
   (jump w (J_level_named_3_0 R k w a0))) := by kernel_rfl
theorem J_level_named_3_0_eq (R : Orc) (k : Nat) (w : Bool) (x0 : List FV) : J_level_named_3_0 R k w x0 = onL (L_level_named_2_0 R k w k x0 x0 (List.length x0 : Int) 0) (K_level_named_2 R k w) := by kernel_rfl
theorem L_level_named_2_0_eq (R : Orc) (k : Nat) (w : Bool) (n : Nat) (x0 : List FV) (x15 : List FV) (x16 : Int) (x17 : Int) : L_level_named_2_0 R k w (n + 1) x0 x15 x16 x17 = ifB (decide (x17 < x16))
  (when ((decide (0 ≤ x17)) && (decide (x17 < (List.length x15 : Int)))) (when (FV.fits 1 false (List.getD x15 (Int.toNat x17) FV.nilp)) (when (FV.isStr (List.getD x15 (Int.toNat x17) FV.nilp)) (onR (R N_level_Name [.fz (FV.str (FV.toStr (List.getD x15 (Int.toNat x17) FV.nilp)))]) fun r0 => when (List.isEmpty r0.2 && allF [.fz] r0.1) (when (FV.isBool (TV.toF (List.getD r0.1 0 TV.em))) (ifB (!(FV.toBool (TV.toF (List.getD r0.1 0 TV.em))))
   (some (.ret, X_level_named_2_0 false))
   (when (List.all x0 (FV.fits 1 false)) (when (decide (0 ≤ x17) && decide (x17 ≤ (List.length x0 : Int))) (when (decide (0 ≤ 0) && decide (0 ≤ x17)) (onL (L_level_named_1_0 R k w k x0 (FV.toStr (List.getD x15 (Int.toNat x17) FV.nilp)) x15 x16 x17 (List.drop 0 (List.take (Int.toNat x17) x0)) (List.length (List.drop 0 (List.take (Int.toNat x17) x0)) : Int) 0) (K_level_named_1 R k w n)))))))))))
  (some ((.exit 0), X_level_named_2_1)) := by kernel_rfl
theorem X_level_named_2_0_eq (R : Orc) (k : Nat) (w : Bool) (x2 : Bool) : K_level_named_2 R k w .ret (X_level_named_2_0 x2) = some ([.fz (FV.bool x2)], []) := by kernel_rfl
theorem L_level_named_1_0_eq (R : Orc) (k : Nat) (w : Bool) (n : Nat) (x0 : List FV) (x4 : ByteArray) (x15 : List FV) (x16 : Int) (x17 : Int) (x27 : List FV) (x28 : Int) (x29 : Int) : L_level_named_1_0 R k w (n + 1) x0 x4 x15 x16 x17 x27 x28 x29 = ifB (decide (x29 < x28))
  (when ((decide (0 ≤ x29)) && (decide (x29 < (List.length x27 : Int)))) (when (FV.fits 1 false (List.getD x27 (Int.toNat x29) FV.nilp)) (when (FV.isStr (List.getD x27 (Int.toNat x29) FV.nilp)) (ifB (ByteArray.toList x4 == ByteArray.toList (FV.toStr (List.getD x27 (Int.toNat x29) FV.nilp)))
   (some (.ret, X_level_named_1_0 x0 false x15 x16 x17))
   (L_level_named_1_0 R k w n x0 x4 x15 x16 x17 x27 x28 (IntKind.wrap .i64 (x29 + 1)))))))
  (some ((.exit 2), X_level_named_1_1 x0 x15 x16 x17)) := by kernel_rfl
theorem X_level_named_2_1_eq (R : Orc) (k : Nat) (w : Bool) : K_level_named_2 R k w (.exit 0) (X_level_named_2_1) = some ([.fz (FV.bool true)], []) := by kernel_rfl
theorem X_level_named_1_0_eq (R : Orc) (k : Nat) (w : Bool) (n : Nat) (x0 : List FV) (x2 : Bool) (x15 : List FV) (x16 : Int) (x17 : Int) : K_level_named_1 R k w n .ret (X_level_named_1_0 x0 x2 x15 x16 x17) = some (.ret, X_level_named_2_0 x2) := by kernel_rfl
theorem X_level_named_1_1_eq (R : Orc) (k : Nat) (w : Bool) (n : Nat) (x0 : List FV) (x15 : List FV) (x16 : Int) (x17 : Int) : K_level_named_1 R k w n (.exit 2) (X_level_named_1_1 x0 x15 x16 x17) = L_level_named_2_0 R k w n x0 x15 x16 (IntKind.wrap .i64 (x17 + 1)) := by kernel_rfl
/-! keyhole/level.laid -/
def A_level_laid_b1 : ACode := .seq (.region [⟨(some 16), .binI .lss .i64 (.t 15) (.t 14), none, some .bool⟩])
 (.seq (.cond (.t 16) (.skip)
   (.exit 0))
  (.seq (.block 1 (.seq (.region [⟨(some 17), .mov (.t 15), none, some (.int .i64)⟩,
      ⟨(some 7), .mov (.t 17), none, some (.int .i64)⟩])
     (.region [⟨(some 18), .mov (.t 7), none, some (.int .i64)⟩,
      ⟨(some 19), .mov (.t 7), none, some (.int .i64)⟩,
      ⟨(some 20), .iadr (.arr 8 8 true) (.t 6) (.t 18), none, none⟩,
      ⟨(some 21), .iadr (.arr 8 1 false) (.t 20) (.t 19), none, none⟩,
      ⟨none, .store 1 false (.t 21) (.c (.fz (.bool true))), none, none⟩])))
   (.region [⟨(some 22), .binI .add .i64 (.t 15) (.c (.fz (.int .i64 1))), none, some (.int .i64)⟩,
    ⟨(some 15), .mov (.t 22), none, some (.int .i64)⟩])))
def A_level_laid_j1 : ACode := .draws [⟨⟨(some 50), .iadr (.arr 2 1 false) (.t 9) (.c (.fz (.int .i64 0))), none, none⟩, []⟩,
 ⟨⟨(some 51), .load 1 false (.t 50), none, some (.int .i64)⟩, [0]⟩,
 ⟨⟨(some 52), .iadr (.arr 2 1 false) (.t 9) (.c (.fz (.int .i64 1))), none, none⟩, []⟩,
 ⟨⟨(some 53), .load 1 false (.t 52), none, some (.int .i64)⟩, [2]⟩,
 ⟨⟨(some 54), .iadr (.arr 8 8 true) (.t 6) (.t 51), none, none⟩, [1]⟩,
 ⟨⟨(some 55), .iadr (.arr 8 1 false) (.t 54) (.t 53), none, none⟩, [4, 3, 0, 1, 2, 3]⟩,
 ⟨⟨none, .store 1 false (.t 55) (.c (.fz (.bool true))), none, none⟩, [5, 0, 1, 2, 3]⟩]
def A_level_laid_s2 : ACode := .region [⟨(some 56), .binI .add .i64 (.t 25) (.c (.fz (.int .i64 1))), none, some (.int .i64)⟩,
 ⟨(some 25), .mov (.t 56), none, some (.int .i64)⟩]
def A_level_laid_b2 : ACode := .seq (.region [⟨(some 26), .binI .lss .i64 (.t 25) (.t 24), none, none⟩])
 (.seq (.cond (.t 26) (.skip)
   (.exit 2))
  (.seq (.block 3 (.seq (.region [⟨(some 27), .iadr (.sl 2 true) (.t 23) (.t 25), none, none⟩,
      ⟨(some 28), .load 2 true (.t 27), none, none⟩,
      ⟨(some 9), .alloc 2 true (.fz (.ag [.int .i64 0, .int .i64 0])), none, none⟩,
      ⟨none, .store 2 true (.t 9) (.t 28), none, none⟩])
     (.seq (.seq (.region [⟨(some 29), .iadr (.arr 2 1 false) (.t 9) (.c (.fz (.int .i64 0))), none, none⟩,
        ⟨(some 30), .load 1 false (.t 29), none, some (.int .i64)⟩,
        ⟨(some 31), .binI .lss .i64 (.t 30) (.c (.fz (.int .i64 0))), none, some .bool⟩,
        ⟨(some 32), .mov (.t 31), none, some .bool⟩,
        ⟨(some 33), .iadr (.arr 2 1 false) (.t 9) (.c (.fz (.int .i64 0))), (some (32, false)), none⟩,
        ⟨(some 34), .load 1 false (.t 33), (some (32, false)), some (.int .i64)⟩,
        ⟨(some 35), .mov (.t 0), (some (32, false)), some (.int .i64)⟩,
        ⟨(some 36), .binI .geq .i64 (.t 34) (.t 35), (some (32, false)), some .bool⟩,
        ⟨(some 37), .pick (.t 32) (.c (.fz (.bool true))) (.t 36), none, some .bool⟩,
        ⟨(some 38), .mov (.t 37), none, some .bool⟩,
        ⟨(some 39), .iadr (.arr 2 1 false) (.t 9) (.c (.fz (.int .i64 1))), (some (38, false)), none⟩,
        ⟨(some 40), .load 1 false (.t 39), (some (38, false)), some (.int .i64)⟩,
        ⟨(some 41), .binI .lss .i64 (.t 40) (.c (.fz (.int .i64 0))), (some (38, false)), some .bool⟩,
        ⟨(some 42), .pick (.t 38) (.c (.fz (.bool true))) (.t 41), none, some .bool⟩,
        ⟨(some 43), .mov (.t 42), none, some .bool⟩,
        ⟨(some 44), .iadr (.arr 2 1 false) (.t 9) (.c (.fz (.int .i64 1))), (some (43, false)), none⟩,
        ⟨(some 45), .load 1 false (.t 44), (some (43, false)), some (.int .i64)⟩,
        ⟨(some 46), .mov (.t 0), (some (43, false)), some (.int .i64)⟩,
        ⟨(some 47), .binI .geq .i64 (.t 45) (.t 46), (some (43, false)), some .bool⟩,
        ⟨(some 48), .pick (.t 43) (.c (.fz (.bool true))) (.t 47), none, some .bool⟩])
       (.cond (.t 48) (.seq (.region [⟨(some 49), .load 64 true (.t 6), none, none⟩,
          ⟨none, .store 64 true (.t 4) (.t 49), none, none⟩,
          ⟨(some 5), .mov (.c (.fz (.bool false))), none, some .bool⟩])
         (.ret))
        (.skip)))
      (.trim [0, 4, 6, 9, 23, 24, 25] A_level_laid_j1))))
   A_level_laid_s2))
def A_level_laid_s3 : ACode := .seq (.region [⟨(some 57), .load 64 true (.t 6), none, none⟩,
  ⟨none, .store 64 true (.t 4) (.t 57), none, none⟩,
  ⟨(some 5), .mov (.c (.fz (.bool true))), none, some .bool⟩])
 (.ret)
def A_level_laid_s4 : ACode := .seq (.seq (.region [⟨(some 23), .mov (.t 1), none, none⟩,
   ⟨(some 24), .len (.sl 2 true) (.t 23), none, some (.int .i64)⟩,
   ⟨(some 25), .mov (.c (.fz (.int .i64 0))), none, some (.int .i64)⟩])
  (.block 2 (.loop [0, 4, 6, 23, 24, 25] [4, 5, 6] A_level_laid_b2)))
 A_level_laid_s3
def A_level_laid : AFunc := ⟨2, [(.cell 4 64 true, .fz), (.tmp 5, .fz)], .seq (.region [⟨(some 4), .alloc 64 true (.fz (.ag [.bool false, .bool false, .bool false, .bool false, .bool false, .bool false, .bool false, .bool false, .bool false, .bool false, .bool false, .bool false, .bool false, .bool false, .bool false, .bool false, .bool false, .bool false, .bool false, .bool false, .bool false, .bool false, .bool false, .bool false, .bool false, .bool false, .bool false, .bool false, .bool false, .bool false, .bool false, .bool false, .bool false, .bool false, .bool false, .bool false, .bool false, .bool false, .bool false, .bool false, .bool false, .bool false, .bool false, .bool false, .bool false, .bool false, .bool false, .bool false, .bool false, .bool false, .bool false, .bool false, .bool false, .bool false, .bool false, .bool false, .bool false, .bool false, .bool false, .bool false, .bool false, .bool false, .bool false, .bool false])), none, none⟩,
  ⟨(some 5), .mov (.c (.fz (.bool false))), none, some .bool⟩])
 (.seq (.region [⟨(some 6), .alloc 64 true (.fz (.ag [.bool false, .bool false, .bool false, .bool false, .bool false, .bool false, .bool false, .bool false, .bool false, .bool false, .bool false, .bool false, .bool false, .bool false, .bool false, .bool false, .bool false, .bool false, .bool false, .bool false, .bool false, .bool false, .bool false, .bool false, .bool false, .bool false, .bool false, .bool false, .bool false, .bool false, .bool false, .bool false, .bool false, .bool false, .bool false, .bool false, .bool false, .bool false, .bool false, .bool false, .bool false, .bool false, .bool false, .bool false, .bool false, .bool false, .bool false, .bool false, .bool false, .bool false, .bool false, .bool false, .bool false, .bool false, .bool false, .bool false, .bool false, .bool false, .bool false, .bool false, .bool false, .bool false, .bool false, .bool false])), none, none⟩])
  (.seq (.seq (.region [⟨(some 10), .mov (.t 1), none, none⟩,
     ⟨(some 11), .len (.sl 2 true) (.t 10), none, some (.int .i64)⟩,
     ⟨(some 12), .binI .gtr .i64 (.t 11) (.c (.fz (.int .i64 64))), none, some .bool⟩])
    (.cond (.t 12) (.seq (.region [⟨(some 13), .load 64 true (.t 6), none, none⟩,
       ⟨none, .store 64 true (.t 4) (.t 13), none, none⟩,
       ⟨(some 5), .mov (.c (.fz (.bool false))), none, some .bool⟩])
      (.ret))
     (.skip)))
   (.seq (.seq (.region [⟨(some 14), .mov (.t 0), none, some (.int .i64)⟩,
      ⟨(some 15), .mov (.c (.fz (.int .i64 0))), none, some (.int .i64)⟩])
     (.block 0 (.loop [0, 1, 4, 6, 14, 15] [0, 1, 4, 6] A_level_laid_b1)))
    A_level_laid_s4)))⟩
def K_level_laid_1 (R : Orc) (k : Nat) (w : Bool) : AExit → St → Option Ans := (kBlk 0 (kSeq R k w [] A_level_laid_s4 (kFin R [(.cell 4 64 true, .fz), (.tmp 5, .fz)] [])))
def L_level_laid_1_0 (R : Orc) (k : Nat) (w : Bool) (n : Nat) (x0 : Int) (x1 : List FV) (x14 : Int) (x15 : Int) (h4096 : FV) (h4097 : FV) := loopL R k w [] [0, 1, 4, 6, 14, 15] [0, 1, 4, 6] A_level_laid_b1 n ⟨[(0, .fz (FV.int .i64 x0)), (1, .fz (FV.sl x1)), (4, .ptr 4096 0 0), (6, .ptr 4097 0 0), (14, .fz (FV.int .i64 x14)), (15, .fz (FV.int .i64 x15))], [(4095, .dead), (4096, .var 64 true (.fz h4096)), (4097, .var 64 true (.fz h4097))]⟩
def X_level_laid_1_0 (x0 : Int) (x1 : List FV) (h4096 : FV) (h4097 : FV) : St := ⟨[(0, .fz (FV.int .i64 x0)), (1, .fz (FV.sl x1)), (4, .ptr 4096 0 0), (6, .ptr 4097 0 0)], [(4095, .dead), (4096, .var 64 true (.fz h4096)), (4097, .var 64 true (.fz h4097))]⟩
def K_level_laid_2 (R : Orc) (k : Nat) (w : Bool) : AExit → St → Option Ans := (kBlk 2 (kSeq R k w [] A_level_laid_s3 (kFin R [(.cell 4 64 true, .fz), (.tmp 5, .fz)] [])))
def L_level_laid_2_0 (R : Orc) (k : Nat) (w : Bool) (n : Nat) (x0 : Int) (x23 : List FV) (x24 : Int) (x25 : Int) (h4096 : FV) (h4097 : FV) := loopL R k w [] [0, 4, 6, 23, 24, 25] [4, 5, 6] A_level_laid_b2 n ⟨[(0, .fz (FV.int .i64 x0)), (4, .ptr 4096 0 0), (6, .ptr 4097 0 0), (23, .fz (FV.sl x23)), (24, .fz (FV.int .i64 x24)), (25, .fz (FV.int .i64 x25))], [(4095, .dead), (4096, .var 64 true (.fz h4096)), (4097, .var 64 true (.fz h4097))]⟩
def X_level_laid_2_0 (x5 : Bool) (h4096 : FV) (h4097 : FV) : St := ⟨[(4, .ptr 4096 0 0), (5, .fz (FV.bool x5)), (6, .ptr 4097 0 0)], [(4095, .dead), (4096, .var 64 true (.fz h4096)), (4097, .var 64 true (.fz h4097))]⟩
def J_level_laid_1_0 (R : Orc) (k : Nat) (w : Bool) (n : Nat) (x0 : Int) (x23 : List FV) (x24 : Int) (x25 : Int) (h4096 : FV) (h4097 : FV) (h4098 : FV) := execL R k w [] A_level_laid_j1 (AExit × St) ⟨[(0, .fz (FV.int .i64 x0)), (4, .ptr 4096 0 0), (6, .ptr 4097 0 0), (9, .ptr 4098 0 0), (23, .fz (FV.sl x23)), (24, .fz (FV.int .i64 x24)), (25, .fz (FV.int .i64 x25))], [(4095, .dead), (4096, .var 64 true (.fz h4096)), (4097, .var 64 true (.fz h4097)), (4098, .var 2 true (.fz h4098))]⟩ (kBlk 3 (kSeq R k w [] A_level_laid_s2 (kLoop R k w [] [0, 4, 6, 23, 24, 25] [4, 5, 6] A_level_laid_b2 n)))
def X_level_laid_2_1 (h4096 : FV) (h4097 : FV) : St := ⟨[(4, .ptr 4096 0 0), (6, .ptr 4097 0 0)], [(4095, .dead), (4096, .var 64 true (.fz h4096)), (4097, .var 64 true (.fz h4097))]⟩
theorem E_level_laid (R : Orc) (k : Nat) (w : Bool) (a0 : Int) (a1 : List FV) : callL R k w A_level_laid [.fz (FV.int .i64 a0), .fz (FV.sl a1)] = ifB (decide ((List.length a1 : Int) > 64))
  (some ([.fz (FV.ag [(FV.bool false), (FV.bool false), (FV.bool false), (FV.bool false), (FV.bool false), (FV.bool false), (FV.bool false), (FV.bool false), (FV.bool false), (FV.bool false), (FV.bool false), (FV.bool false), (FV.bool false), (FV.bool false), (FV.bool false), (FV.bool false), (FV.bool false), (FV.bool false), (FV.bool false), (FV.bool false), (FV.bool false), (FV.bool false), (FV.bool false), (FV.bool false), (FV.bool false), (FV.bool false), (FV.bool false), (FV.bool false), (FV.bool false), (FV.bool false), (FV.bool false), (FV.bool false), (FV.bool false), (FV.bool false), (FV.bool false), (FV.bool false), (FV.bool false), (FV.bool false), (FV.bool false), (FV.bool false), (FV.bool false), (FV.bool false), (FV.bool false), (FV.bool false), (FV.bool false), (FV.bool false), (FV.bool false), (FV.bool false), (FV.bool false), (FV.bool false), (FV.bool false), (FV.bool false), (FV.bool false), (FV.bool false), (FV.bool false), (FV.bool false), (FV.bool false), (FV.bool false), (FV.bool false), (FV.bool false), (FV.bool false), (FV.bool false), (FV.bool false), (FV.bool false)]), .fz (FV.bool false)], []))
  (onL (L_level_laid_1_0 R k w k a0 a1 a0 0 (FV.ag [(FV.bool false), (FV.bool false), (FV.bool false), (FV.bool false), (FV.bool false), (FV.bool false), (FV.bool false), (FV.bool false), (FV.bool false), (FV.bool false), (FV.bool false), (FV.bool false), (FV.bool false), (FV.bool false), (FV.bool false), (FV.bool false), (FV.bool false), (FV.bool false), (FV.bool false), (FV.bool false), (FV.bool false), (FV.bool false), (FV.bool false), (FV.bool false), (FV.bool false), (FV.bool false), (FV.bool false), (FV.bool false), (FV.bool false), (FV.bool false), (FV.bool false), (FV.bool false), (FV.bool false), (FV.bool false), (FV.bool false), (FV.bool false), (FV.bool false), (FV.bool false), (FV.bool false), (FV.bool false), (FV.bool false), (FV.bool false), (FV.bool false), (FV.bool false), (FV.bool false), (FV.bool false), (FV.bool false), (FV.bool false), (FV.bool false), (FV.bool false), (FV.bool false), (FV.bool false), (FV.bool false), (FV.bool false), (FV.bool false), (FV.bool false), (FV.bool false), (FV.bool false), (FV.bool false), (FV.bool false), (FV.bool false), (FV.bool false), (FV.bool false), (FV.bool false)]) (FV.ag [(FV.bool false), (FV.bool false), (FV.bool false), (FV.bool false), (FV.bool false), (FV.bool false), (FV.bool false), (FV.bool false), (FV.bool false), (FV.bool false), (FV.bool false), (FV.bool false), (FV.bool false), (FV.bool false), (FV.bool false), (FV.bool false), (FV.bool false), (FV.bool false), (FV.bool false), (FV.bool false), (FV.bool false), (FV.bool false), (FV.bool false), (FV.bool false), (FV.bool false), (FV.bool false), (FV.bool false), (FV.bool false), (FV.bool false), (FV.bool false), (FV.bool false), (FV.bool false), (FV.bool false), (FV.bool false), (FV.bool false), (FV.bool false), (FV.bool false), (FV.bool false), (FV.bool false), (FV.bool false), (FV.bool false), (FV.bool false), (FV.bool false), (FV.bool false), (FV.bool false), (FV.bool false), (FV.bool false), (FV.bool false), (FV.bool false), (FV.bool false), (FV.bool false), (FV.bool false), (FV.bool false), (FV.bool false), (FV.bool false), (FV.bool false), (FV.bool false), (FV.bool false), (FV.bool false), (FV.bool false), (FV.bool false), (FV.bool false), (FV.bool false), (FV.bool false)])) (K_level_laid_1 R k w)) := by kernel_rfl
theorem L_level_laid_1_0_eq (R : Orc) (k : Nat) (w : Bool) (n : Nat) (x0 : Int) (x1 : List FV) (x14 : Int) (x15 : Int) (h4096 : FV) (h4097 : FV) : L_level_laid_1_0 R k w (n + 1) x0 x1 x14 x15 h4096 h4097 = ifB (decide (x15 < x14))
  (when (decide (0 ≤ x15) && decide (x15 < 8)) (when (decide (0 ≤ x15) && decide (x15 < 8)) (when ((FV.isAg 64 h4097) && true) (when (Nat.blt ((0 + ((Int.toNat x15) * 8)) + ((Int.toNat x15) * 1)) 64) (L_level_laid_1_0 R k w n x0 x1 x14 (IntKind.wrap .i64 (x15 + 1)) h4096 (FV.ag (List.set (FV.toAg h4097) ((0 + ((Int.toNat x15) * 8)) + ((Int.toNat x15) * 1)) (FV.bool true))))))))
  (some ((.exit 0), X_level_laid_1_0 x0 x1 h4096 h4097)) := by kernel_rfl
theorem X_level_laid_1_0_eq (R : Orc) (k : Nat) (w : Bool) (x0 : Int) (x1 : List FV) (h4096 : FV) (h4097 : FV) : K_level_laid_1 R k w (.exit 0) (X_level_laid_1_0 x0 x1 h4096 h4097) = onL (L_level_laid_2_0 R k w k x0 x1 (List.length x1 : Int) 0 h4096 h4097) (K_level_laid_2 R k w) := by kernel_rfl
theorem L_level_laid_2_0_eq (R : Orc) (k : Nat) (w : Bool) (n : Nat) (x0 : Int) (x23 : List FV) (x24 : Int) (x25 : Int) (h4096 : FV) (h4097 : FV) : L_level_laid_2_0 R k w (n + 1) x0 x23 x24 x25 h4096 h4097 = ifB (decide (x25 < x24))
  (when ((decide (0 ≤ x25)) && (decide (x25 < (List.length x23 : Int)))) (when (FV.fits 2 true (List.getD x23 (Int.toNat x25) FV.nilp)) (when (FV.fits 2 true (List.getD x23 (Int.toNat x25) FV.nilp)) (when (FV.isAg 2 (List.getD x23 (Int.toNat x25) FV.nilp)) (when (FV.isInt .i64 (FV.cell (List.getD x23 (Int.toNat x25) FV.nilp) 0)) (ifB (decide ((FV.toInt (FV.cell (List.getD x23 (Int.toNat x25) FV.nilp) 0)) < 0))
   (when (FV.fits 64 true h4097) (some (.ret, X_level_laid_2_0 false h4097 h4097)))
   (when (FV.isAg 2 (List.getD x23 (Int.toNat x25) FV.nilp)) (when (FV.isInt .i64 (FV.cell (List.getD x23 (Int.toNat x25) FV.nilp) 0)) (ifB (decide ((FV.toInt (FV.cell (List.getD x23 (Int.toNat x25) FV.nilp) 0)) ≥ x0))
    (when (FV.fits 64 true h4097) (some (.ret, X_level_laid_2_0 false h4097 h4097)))
    (when (FV.isAg 2 (List.getD x23 (Int.toNat x25) FV.nilp)) (when (FV.isInt .i64 (FV.cell (List.getD x23 (Int.toNat x25) FV.nilp) 1)) (ifB (decide ((FV.toInt (FV.cell (List.getD x23 (Int.toNat x25) FV.nilp) 1)) < 0))
     (when (FV.fits 64 true h4097) (some (.ret, X_level_laid_2_0 false h4097 h4097)))
     (when (FV.isAg 2 (List.getD x23 (Int.toNat x25) FV.nilp)) (when (FV.isInt .i64 (FV.cell (List.getD x23 (Int.toNat x25) FV.nilp) 1)) (ifB (decide ((FV.toInt (FV.cell (List.getD x23 (Int.toNat x25) FV.nilp) 1)) ≥ x0))
      (when (FV.fits 64 true h4097) (some (.ret, X_level_laid_2_0 false h4097 h4097)))
      (jump w (J_level_laid_1_0 R k w n x0 x23 x24 x25 h4096 h4097 (List.getD x23 (Int.toNat x25) FV.nilp))))))))))))))))))
  (some ((.exit 2), X_level_laid_2_1 h4096 h4097)) := by kernel_rfl
theorem X_level_laid_2_0_eq (R : Orc) (k : Nat) (w : Bool) (x5 : Bool) (h4096 : FV) (h4097 : FV) : K_level_laid_2 R k w .ret (X_level_laid_2_0 x5 h4096 h4097) = some ([.fz h4096, .fz (FV.bool x5)], []) := by kernel_rfl
theorem J_level_laid_1_0_eq (R : Orc) (k : Nat) (w : Bool) (n : Nat) (x0 : Int) (x23 : List FV) (x24 : Int) (x25 : Int) (h4096 : FV) (h4097 : FV) (h4098 : FV) : J_level_laid_1_0 R k w n x0 x23 x24 x25 h4096 h4097 h4098 = when (FV.isAg 2 h4098) (when (FV.isInt .i64 (FV.cell h4098 0)) (when (FV.isAg 2 h4098) (when (FV.isInt .i64 (FV.cell h4098 1)) (when (decide (0 ≤ (FV.toInt (FV.cell h4098 0))) && decide ((FV.toInt (FV.cell h4098 0)) < 8)) (when (decide (0 ≤ (FV.toInt (FV.cell h4098 1))) && decide ((FV.toInt (FV.cell h4098 1)) < 8)) (when ((FV.isAg 64 h4097) && true) (when (Nat.blt ((0 + ((Int.toNat (FV.toInt (FV.cell h4098 0))) * 8)) + ((Int.toNat (FV.toInt (FV.cell h4098 1))) * 1)) 64) (L_level_laid_2_0 R k w n x0 x23 x24 (IntKind.wrap .i64 (x25 + 1)) h4096 (FV.ag (List.set (FV.toAg h4097) ((0 + ((Int.toNat (FV.toInt (FV.cell h4098 0))) * 8)) + ((Int.toNat (FV.toInt (FV.cell h4098 1))) * 1)) (FV.bool true))))))))))) := by kernel_rfl
theorem X_level_laid_2_1_eq (R : Orc) (k : Nat) (w : Bool) (h4096 : FV) (h4097 : FV) : K_level_laid_2 R k w (.exit 2) (X_level_laid_2_1 h4096 h4097) = when (FV.fits 64 true h4097) (some ([.fz h4097, .fz (FV.bool true)], [])) := by kernel_rfl
/-! keyhole/level.closed -/
def A_level_closed_b1 : ACode := .seq (.region [⟨(some 20), .binI .lss .i64 (.t 19) (.t 18), none, some .bool⟩])
 (.seq (.cond (.t 20) (.skip)
   (.exit 6))
  (.seq (.block 7 (.seq (.region [⟨(some 21), .mov (.t 19), none, some (.int .i64)⟩,
      ⟨(some 8), .mov (.t 21), none, some (.int .i64)⟩])
     (.draws [⟨⟨(some 22), .mov (.t 6), none, some (.int .i64)⟩, []⟩,
      ⟨⟨(some 23), .mov (.t 8), none, some (.int .i64)⟩, []⟩,
      ⟨⟨(some 24), .mov (.t 6), none, some (.int .i64)⟩, []⟩,
      ⟨⟨(some 25), .mov (.t 8), none, some (.int .i64)⟩, []⟩,
      ⟨⟨(some 26), .iadr (.arr 8 8 true) (.t 2) (.t 24), none, none⟩, [2]⟩,
      ⟨⟨(some 27), .iadr (.arr 8 1 false) (.t 26) (.t 25), none, none⟩, [4, 3]⟩,
      ⟨⟨(some 28), .load 1 false (.t 27), none, some .bool⟩, [5]⟩,
      ⟨⟨(some 29), .mov (.t 28), none, some .bool⟩, [6]⟩,
      ⟨⟨(some 30), .mov (.t 6), (some (29, false)), some (.int .i64)⟩, [7]⟩,
      ⟨⟨(some 31), .mov (.t 7), (some (29, false)), some (.int .i64)⟩, [7]⟩,
      ⟨⟨(some 32), .iadr (.arr 8 8 true) (.t 2) (.t 30), (some (29, false)), none⟩, [8, 7]⟩,
      ⟨⟨(some 33), .iadr (.arr 8 1 false) (.t 32) (.t 31), (some (29, false)), none⟩, [10, 9, 7]⟩,
      ⟨⟨(some 34), .load 1 false (.t 33), (some (29, false)), some .bool⟩, [11, 7]⟩,
      ⟨⟨(some 35), .mov (.t 34), (some (29, false)), some .bool⟩, [12, 7, 7]⟩,
      ⟨⟨(some 36), .mov (.t 7), (some (35, true)), some (.int .i64)⟩, [13]⟩,
      ⟨⟨(some 37), .mov (.t 8), (some (35, true)), some (.int .i64)⟩, [13]⟩,
      ⟨⟨(some 38), .iadr (.arr 8 8 true) (.t 2) (.t 36), (some (35, true)), none⟩, [14, 13]⟩,
      ⟨⟨(some 39), .iadr (.arr 8 1 false) (.t 38) (.t 37), (some (35, true)), none⟩, [16, 15, 13]⟩,
      ⟨⟨(some 40), .load 1 false (.t 39), (some (35, true)), some .bool⟩, [17, 13]⟩,
      ⟨⟨(some 41), .pick (.t 35) (.t 40) (.c (.fz (.bool false))), (some (29, false)), some .bool⟩, [13, 18, 7]⟩,
      ⟨⟨(some 42), .pick (.t 29) (.c (.fz (.bool true))) (.t 41), none, some .bool⟩, [7, 19]⟩,
      ⟨⟨(some 43), .iadr (.arr 8 8 true) (.t 2) (.t 22), none, none⟩, [0]⟩,
      ⟨⟨(some 44), .iadr (.arr 8 1 false) (.t 43) (.t 23), none, none⟩, [21, 1, 0, 1, 2, 3, 4, 5, 6, 7, 8, 9, 10, 11, 12, 13, 14, 15, 16, 17, 18, 19, 20]⟩,
      ⟨⟨none, .store 1 false (.t 44) (.t 42), none, none⟩, [22, 20, 13, 0, 1, 2, 3, 4, 5, 6, 7, 8, 9, 10, 11, 12, 13, 14, 15, 16, 17, 18, 19, 20]⟩])))
   (.region [⟨(some 45), .binI .add .i64 (.t 19) (.c (.fz (.int .i64 1))), none, some (.int .i64)⟩,
    ⟨(some 19), .mov (.t 45), none, some (.int .i64)⟩])))
def A_level_closed_s1 : ACode := .region [⟨(some 46), .binI .add .i64 (.t 15) (.c (.fz (.int .i64 1))), none, some (.int .i64)⟩,
 ⟨(some 15), .mov (.t 46), none, some (.int .i64)⟩]
def A_level_closed_b2 : ACode := .seq (.region [⟨(some 16), .binI .lss .i64 (.t 15) (.t 14), none, some .bool⟩])
 (.seq (.cond (.t 16) (.skip)
   (.exit 4))
  (.seq (.block 5 (.seq (.region [⟨(some 17), .mov (.t 15), none, some (.int .i64)⟩,
      ⟨(some 7), .mov (.t 17), none, some (.int .i64)⟩])
     (.seq (.region [⟨(some 18), .mov (.t 1), none, some (.int .i64)⟩,
       ⟨(some 19), .mov (.c (.fz (.int .i64 0))), none, some (.int .i64)⟩])
      (.block 6 (.loop [1, 2, 4, 5, 6, 7, 10, 11, 14, 15, 18, 19] [1, 2, 4, 5, 6, 10, 11, 14, 15] A_level_closed_b1)))))
   A_level_closed_s1))
def A_level_closed_s2 : ACode := .region [⟨(some 47), .binI .add .i64 (.t 11) (.c (.fz (.int .i64 1))), none, some (.int .i64)⟩,
 ⟨(some 11), .mov (.t 47), none, some (.int .i64)⟩]
def A_level_closed_b3 : ACode := .seq (.region [⟨(some 12), .binI .lss .i64 (.t 11) (.t 10), none, some .bool⟩])
 (.seq (.cond (.t 12) (.skip)
   (.exit 2))
  (.seq (.block 3 (.seq (.region [⟨(some 13), .mov (.t 11), none, some (.int .i64)⟩,
      ⟨(some 6), .mov (.t 13), none, some (.int .i64)⟩])
     (.seq (.region [⟨(some 14), .mov (.t 1), none, some (.int .i64)⟩,
       ⟨(some 15), .mov (.c (.fz (.int .i64 0))), none, some (.int .i64)⟩])
      (.block 4 (.loop [1, 2, 4, 5, 6, 10, 11, 14, 15] [1, 2, 4, 5, 10, 11] A_level_closed_b2)))))
   A_level_closed_s2))
def A_level_closed_s3 : ACode := .seq (.region [⟨(some 48), .load 64 true (.t 2), none, none⟩,
  ⟨(some 49), .load 64 true (.t 5), none, none⟩,
  ⟨(some 50), .eqA false (List.replicate 64 (.bool)) (.t 48) (.t 49), none, some .bool⟩])
 (.cond (.t 50) (.seq (.region [⟨(some 51), .load 64 true (.t 2), none, none⟩,
    ⟨none, .store 64 true (.t 4) (.t 51), none, none⟩])
   (.ret))
  (.skip))
def A_level_closed_b4 : ACode := .block 1 (.seq (.region [⟨(some 9), .load 64 true (.t 2), none, none⟩,
   ⟨(some 5), .alloc 64 true (.fz (.ag [.bool false, .bool false, .bool false, .bool false, .bool false, .bool false, .bool false, .bool false, .bool false, .bool false, .bool false, .bool false, .bool false, .bool false, .bool false, .bool false, .bool false, .bool false, .bool false, .bool false, .bool false, .bool false, .bool false, .bool false, .bool false, .bool false, .bool false, .bool false, .bool false, .bool false, .bool false, .bool false, .bool false, .bool false, .bool false, .bool false, .bool false, .bool false, .bool false, .bool false, .bool false, .bool false, .bool false, .bool false, .bool false, .bool false, .bool false, .bool false, .bool false, .bool false, .bool false, .bool false, .bool false, .bool false, .bool false, .bool false, .bool false, .bool false, .bool false, .bool false, .bool false, .bool false, .bool false, .bool false])), none, none⟩,
   ⟨none, .store 64 true (.t 5) (.t 9), none, none⟩])
  (.seq (.seq (.region [⟨(some 10), .mov (.t 1), none, some (.int .i64)⟩,
     ⟨(some 11), .mov (.c (.fz (.int .i64 0))), none, some (.int .i64)⟩])
    (.block 2 (.loop [1, 2, 4, 5, 10, 11] [1, 2, 4, 5] A_level_closed_b3)))
   A_level_closed_s3))
def A_level_closed : AFunc := ⟨2, [(.cell 4 64 true, .fz)], .seq (.region [⟨(some 2), .box 64 true (.t 0), none, none⟩,
  ⟨(some 4), .alloc 64 true (.fz (.ag [.bool false, .bool false, .bool false, .bool false, .bool false, .bool false, .bool false, .bool false, .bool false, .bool false, .bool false, .bool false, .bool false, .bool false, .bool false, .bool false, .bool false, .bool false, .bool false, .bool false, .bool false, .bool false, .bool false, .bool false, .bool false, .bool false, .bool false, .bool false, .bool false, .bool false, .bool false, .bool false, .bool false, .bool false, .bool false, .bool false, .bool false, .bool false, .bool false, .bool false, .bool false, .bool false, .bool false, .bool false, .bool false, .bool false, .bool false, .bool false, .bool false, .bool false, .bool false, .bool false, .bool false, .bool false, .bool false, .bool false, .bool false, .bool false, .bool false, .bool false, .bool false, .bool false, .bool false, .bool false])), none, none⟩])
 (.block 0 (.loop [1, 2, 4] [4] A_level_closed_b4))⟩
def K_level_closed_4 (R : Orc) (k : Nat) (w : Bool) : AExit → St → Option Ans := (kBlk 0 (kFin R [(.cell 4 64 true, .fz)] []))
def L_level_closed_4_0 (R : Orc) (k : Nat) (w : Bool) (n : Nat) (x1 : Int) (h4096 : FV) (h4097 : FV) := loopL R k w [] [1, 2, 4] [4] A_level_closed_b4 n ⟨[(1, .fz (FV.int .i64 x1)), (2, .ptr 4096 0 0), (4, .ptr 4097 0 0)], [(4095, .dead), (4096, .var 64 true (.fz h4096)), (4097, .var 64 true (.fz h4097))]⟩
def K_level_closed_3 (R : Orc) (k : Nat) (w : Bool) (n : Nat) : AExit → St → Option (AExit × St) := (kBlk 2 (kSeq R k w [] A_level_closed_s3 (kBlk 1 (kLoop R k w [] [1, 2, 4] [4] A_level_closed_b4 n))))
def L_level_closed_3_0 (R : Orc) (k : Nat) (w : Bool) (n : Nat) (x1 : Int) (x10 : Int) (x11 : Int) (h4096 : FV) (h4097 : FV) (h4098 : FV) := loopL R k w [] [1, 2, 4, 5, 10, 11] [1, 2, 4, 5] A_level_closed_b3 n ⟨[(1, .fz (FV.int .i64 x1)), (2, .ptr 4096 0 0), (4, .ptr 4097 0 0), (5, .ptr 4098 0 0), (10, .fz (FV.int .i64 x10)), (11, .fz (FV.int .i64 x11))], [(4095, .dead), (4096, .var 64 true (.fz h4096)), (4097, .var 64 true (.fz h4097)), (4098, .var 64 true (.fz h4098))]⟩
def K_level_closed_2 (R : Orc) (k : Nat) (w : Bool) (n : Nat) : AExit → St → Option (AExit × St) := (kBlk 4 (kBlk 3 (kSeq R k w [] A_level_closed_s2 (kLoop R k w [] [1, 2, 4, 5, 10, 11] [1, 2, 4, 5] A_level_closed_b3 n))))
def L_level_closed_2_0 (R : Orc) (k : Nat) (w : Bool) (n : Nat) (x1 : Int) (x6 : Int) (x10 : Int) (x11 : Int) (x14 : Int) (x15 : Int) (h4096 : FV) (h4097 : FV) (h4098 : FV) := loopL R k w [] [1, 2, 4, 5, 6, 10, 11, 14, 15] [1, 2, 4, 5, 10, 11] A_level_closed_b2 n ⟨[(1, .fz (FV.int .i64 x1)), (2, .ptr 4096 0 0), (4, .ptr 4097 0 0), (5, .ptr 4098 0 0), (6, .fz (FV.int .i64 x6)), (10, .fz (FV.int .i64 x10)), (11, .fz (FV.int .i64 x11)), (14, .fz (FV.int .i64 x14)), (15, .fz (FV.int .i64 x15))], [(4095, .dead), (4096, .var 64 true (.fz h4096)), (4097, .var 64 true (.fz h4097)), (4098, .var 64 true (.fz h4098))]⟩
def X_level_closed_3_0 (x1 : Int) (h4096 : FV) (h4097 : FV) (h4098 : FV) : St := ⟨[(1, .fz (FV.int .i64 x1)), (2, .ptr 4096 0 0), (4, .ptr 4097 0 0), (5, .ptr 4098 0 0)], [(4095, .dead), (4096, .var 64 true (.fz h4096)), (4097, .var 64 true (.fz h4097)), (4098, .var 64 true (.fz h4098))]⟩
def K_level_closed_1 (R : Orc) (k : Nat) (w : Bool) (n : Nat) : AExit → St → Option (AExit × St) := (kBlk 6 (kBlk 5 (kSeq R k w [] A_level_closed_s1 (kLoop R k w [] [1, 2, 4, 5, 6, 10, 11, 14, 15] [1, 2, 4, 5, 10, 11] A_level_closed_b2 n))))
def L_level_closed_1_0 (R : Orc) (k : Nat) (w : Bool) (n : Nat) (x1 : Int) (x6 : Int) (x7 : Int) (x10 : Int) (x11 : Int) (x14 : Int) (x15 : Int) (x18 : Int) (x19 : Int) (h4096 : FV) (h4097 : FV) (h4098 : FV) := loopL R k w [] [1, 2, 4, 5, 6, 7, 10, 11, 14, 15, 18, 19] [1, 2, 4, 5, 6, 10, 11, 14, 15] A_level_closed_b1 n ⟨[(1, .fz (FV.int .i64 x1)), (2, .ptr 4096 0 0), (4, .ptr 4097 0 0), (5, .ptr 4098 0 0), (6, .fz (FV.int .i64 x6)), (7, .fz (FV.int .i64 x7)), (10, .fz (FV.int .i64 x10)), (11, .fz (FV.int .i64 x11)), (14, .fz (FV.int .i64 x14)), (15, .fz (FV.int .i64 x15)), (18, .fz (FV.int .i64 x18)), (19, .fz (FV.int .i64 x19))], [(4095, .dead), (4096, .var 64 true (.fz h4096)), (4097, .var 64 true (.fz h4097)), (4098, .var 64 true (.fz h4098))]⟩
def X_level_closed_2_0 (x1 : Int) (x10 : Int) (x11 : Int) (h4096 : FV) (h4097 : FV) (h4098 : FV) : St := ⟨[(1, .fz (FV.int .i64 x1)), (2, .ptr 4096 0 0), (4, .ptr 4097 0 0), (5, .ptr 4098 0 0), (10, .fz (FV.int .i64 x10)), (11, .fz (FV.int .i64 x11))], [(4095, .dead), (4096, .var 64 true (.fz h4096)), (4097, .var 64 true (.fz h4097)), (4098, .var 64 true (.fz h4098))]⟩
def X_level_closed_4_0 (h4096 : FV) : St := ⟨[(4, .ptr 4096 0 0)], [(4095, .dead), (4096, .var 64 true (.fz h4096))]⟩
def X_level_closed_1_0 (x1 : Int) (x6 : Int) (x10 : Int) (x11 : Int) (x14 : Int) (x15 : Int) (h4096 : FV) (h4097 : FV) (h4098 : FV) : St := ⟨[(1, .fz (FV.int .i64 x1)), (2, .ptr 4096 0 0), (4, .ptr 4097 0 0), (5, .ptr 4098 0 0), (6, .fz (FV.int .i64 x6)), (10, .fz (FV.int .i64 x10)), (11, .fz (FV.int .i64 x11)), (14, .fz (FV.int .i64 x14)), (15, .fz (FV.int .i64 x15))], [(4095, .dead), (4096, .var 64 true (.fz h4096)), (4097, .var 64 true (.fz h4097)), (4098, .var 64 true (.fz h4098))]⟩
theorem E_level_closed (R : Orc) (k : Nat) (w : Bool) (a0 : FV) (a1 : Int) : callL R k w A_level_closed [.fz a0, .fz (FV.int .i64 a1)] = when (FV.fits 64 true a0) (onL (L_level_closed_4_0 R k w k a1 a0 (FV.ag [(FV.bool false), (FV.bool false), (FV.bool false), (FV.bool false), (FV.bool false), (FV.bool false), (FV.bool false), (FV.bool false), (FV.bool false), (FV.bool false), (FV.bool false), (FV.bool false), (FV.bool false), (FV.bool false), (FV.bool false), (FV.bool false), (FV.bool false), (FV.bool false), (FV.bool false), (FV.bool false), (FV.bool false), (FV.bool false), (FV.bool false), (FV.bool false), (FV.bool false), (FV.bool false), (FV.bool false), (FV.bool false), (FV.bool false), (FV.bool false), (FV.bool false), (FV.bool false), (FV.bool false), (FV.bool false), (FV.bool false), (FV.bool false), (FV.bool false), (FV.bool false), (FV.bool false), (FV.bool false), (FV.bool false), (FV.bool false), (FV.bool false), (FV.bool false), (FV.bool false), (FV.bool false), (FV.bool false), (FV.bool false), (FV.bool false), (FV.bool false), (FV.bool false), (FV.bool false), (FV.bool false), (FV.bool false), (FV.bool false), (FV.bool false), (FV.bool false), (FV.bool false), (FV.bool false), (FV.bool false), (FV.bool false), (FV.bool false), (FV.bool false), (FV.bool false)])) (K_level_closed_4 R k w)) := by kernel_rfl
theorem L_level_closed_4_0_eq (R : Orc) (k : Nat) (w : Bool) (n : Nat) (x1 : Int) (h4096 : FV) (h4097 : FV) : L_level_closed_4_0 R k w (n + 1) x1 h4096 h4097 = when (FV.fits 64 true h4096) (onL (L_level_closed_3_0 R k w k x1 x1 0 h4096 h4097 h4096) (K_level_closed_3 R k w n)) := by kernel_rfl
theorem L_level_closed_3_0_eq (R : Orc) (k : Nat) (w : Bool) (n : Nat) (x1 : Int) (x10 : Int) (x11 : Int) (h4096 : FV) (h4097 : FV) (h4098 : FV) : L_level_closed_3_0 R k w (n + 1) x1 x10 x11 h4096 h4097 h4098 = ifB (decide (x11 < x10))
  (onL (L_level_closed_2_0 R k w k x1 x11 x10 x11 x1 0 h4096 h4097 h4098) (K_level_closed_2 R k w n))
  (some ((.exit 2), X_level_closed_3_0 x1 h4096 h4097 h4098)) := by kernel_rfl
theorem L_level_closed_2_0_eq (R : Orc) (k : Nat) (w : Bool) (n : Nat) (x1 : Int) (x6 : Int) (x10 : Int) (x11 : Int) (x14 : Int) (x15 : Int) (h4096 : FV) (h4097 : FV) (h4098 : FV) : L_level_closed_2_0 R k w (n + 1) x1 x6 x10 x11 x14 x15 h4096 h4097 h4098 = ifB (decide (x15 < x14))
  (onL (L_level_closed_1_0 R k w k x1 x6 x15 x10 x11 x14 x15 x1 0 h4096 h4097 h4098) (K_level_closed_1 R k w n))
  (some ((.exit 4), X_level_closed_2_0 x1 x10 x11 h4096 h4097 h4098)) := by kernel_rfl
theorem X_level_closed_3_0_eq (R : Orc) (k : Nat) (w : Bool) (n : Nat) (x1 : Int) (h4096 : FV) (h4097 : FV) (h4098 : FV) : K_level_closed_3 R k w n (.exit 2) (X_level_closed_3_0 x1 h4096 h4097 h4098) = when ((FV.isAg 64 h4096) && (FV.isAg 64 h4098)) (when ((eksOk (List.replicate 64 (.bool)) (FV.toAg h4096)) && (eksOk (List.replicate 64 (.bool)) (FV.toAg h4098))) (ifB (eksEq (List.replicate 64 (.bool)) (FV.toAg h4096) (FV.toAg h4098))
  (when (FV.fits 64 true h4096) (some (.ret, X_level_closed_4_0 h4096)))
  (L_level_closed_4_0 R k w n x1 h4096 h4097))) := by kernel_rfl
theorem L_level_closed_1_0_eq (R : Orc) (k : Nat) (w : Bool) (n : Nat) (x1 : Int) (x6 : Int) (x7 : Int) (x10 : Int) (x11 : Int) (x14 : Int) (x15 : Int) (x18 : Int) (x19 : Int) (h4096 : FV) (h4097 : FV) (h4098 : FV) : L_level_closed_1_0 R k w (n + 1) x1 x6 x7 x10 x11 x14 x15 x18 x19 h4096 h4097 h4098 = ifB (decide (x19 < x18))
  (when (decide (0 ≤ x6) && decide (x6 < 8)) (when (decide (0 ≤ x19) && decide (x19 < 8)) (when (FV.isAg 64 h4096) (when (Nat.blt ((0 + ((Int.toNat x6) * 8)) + ((Int.toNat x19) * 1)) 64) (when (FV.isBool (FV.cell h4096 ((0 + ((Int.toNat x6) * 8)) + ((Int.toNat x19) * 1)))) (ifB (FV.toBool (FV.cell h4096 ((0 + ((Int.toNat x6) * 8)) + ((Int.toNat x19) * 1))))
   (when (decide (0 ≤ x6) && decide (x6 < 8)) (when (decide (0 ≤ x19) && decide (x19 < 8)) (when ((FV.isAg 64 h4096) && true) (when (Nat.blt ((0 + ((Int.toNat x6) * 8)) + ((Int.toNat x19) * 1)) 64) (L_level_closed_1_0 R k w n x1 x6 x7 x10 x11 x14 x15 x18 (IntKind.wrap .i64 (x19 + 1)) (FV.ag (List.set (FV.toAg h4096) ((0 + ((Int.toNat x6) * 8)) + ((Int.toNat x19) * 1)) (FV.bool true))) h4097 h4098)))))
   (when (decide (0 ≤ x6) && decide (x6 < 8)) (when (decide (0 ≤ x7) && decide (x7 < 8)) (when (FV.isAg 64 h4096) (when (Nat.blt ((0 + ((Int.toNat x6) * 8)) + ((Int.toNat x7) * 1)) 64) (when (FV.isBool (FV.cell h4096 ((0 + ((Int.toNat x6) * 8)) + ((Int.toNat x7) * 1)))) (ifB (FV.toBool (FV.cell h4096 ((0 + ((Int.toNat x6) * 8)) + ((Int.toNat x7) * 1))))
    (when (decide (0 ≤ x7) && decide (x7 < 8)) (when (decide (0 ≤ x19) && decide (x19 < 8)) (when (FV.isAg 64 h4096) (when (Nat.blt ((0 + ((Int.toNat x7) * 8)) + ((Int.toNat x19) * 1)) 64) (when (FV.isBool (FV.cell h4096 ((0 + ((Int.toNat x7) * 8)) + ((Int.toNat x19) * 1)))) (when (decide (0 ≤ x6) && decide (x6 < 8)) (when (decide (0 ≤ x19) && decide (x19 < 8)) (when ((FV.isAg 64 h4096) && true) (when (Nat.blt ((0 + ((Int.toNat x6) * 8)) + ((Int.toNat x19) * 1)) 64) (L_level_closed_1_0 R k w n x1 x6 x7 x10 x11 x14 x15 x18 (IntKind.wrap .i64 (x19 + 1)) (FV.ag (List.set (FV.toAg h4096) ((0 + ((Int.toNat x6) * 8)) + ((Int.toNat x19) * 1)) (FV.bool (FV.toBool (FV.cell h4096 ((0 + ((Int.toNat x7) * 8)) + ((Int.toNat x19) * 1))))))) h4097 h4098))))))))))
    (when (decide (0 ≤ x6) && decide (x6 < 8)) (when (decide (0 ≤ x19) && decide (x19 < 8)) (when ((FV.isAg 64 h4096) && true) (when (Nat.blt ((0 + ((Int.toNat x6) * 8)) + ((Int.toNat x19) * 1)) 64) (L_level_closed_1_0 R k w n x1 x6 x7 x10 x11 x14 x15 x18 (IntKind.wrap .i64 (x19 + 1)) (FV.ag (List.set (FV.toAg h4096) ((0 + ((Int.toNat x6) * 8)) + ((Int.toNat x19) * 1)) (FV.bool false))) h4097 h4098)))))))))))))))))
  (some ((.exit 6), X_level_closed_1_0 x1 x6 x10 x11 x14 x15 h4096 h4097 h4098)) := by kernel_rfl
theorem X_level_closed_2_0_eq (R : Orc) (k : Nat) (w : Bool) (n : Nat) (x1 : Int) (x10 : Int) (x11 : Int) (h4096 : FV) (h4097 : FV) (h4098 : FV) : K_level_closed_2 R k w n (.exit 4) (X_level_closed_2_0 x1 x10 x11 h4096 h4097 h4098) = L_level_closed_3_0 R k w n x1 x10 (IntKind.wrap .i64 (x11 + 1)) h4096 h4097 h4098 := by kernel_rfl
theorem X_level_closed_4_0_eq (R : Orc) (k : Nat) (w : Bool) (h4096 : FV) : K_level_closed_4 R k w .ret (X_level_closed_4_0 h4096) = some ([.fz h4096], []) := by kernel_rfl
theorem X_level_closed_1_0_eq (R : Orc) (k : Nat) (w : Bool) (n : Nat) (x1 : Int) (x6 : Int) (x10 : Int) (x11 : Int) (x14 : Int) (x15 : Int) (h4096 : FV) (h4097 : FV) (h4098 : FV) : K_level_closed_1 R k w n (.exit 6) (X_level_closed_1_0 x1 x6 x10 x11 x14 x15 h4096 h4097 h4098) = L_level_closed_2_0 R k w n x1 x6 x10 x11 x14 (IntKind.wrap .i64 (x15 + 1)) h4096 h4097 h4098 := by kernel_rfl
end Go.Ab
