-- Written by a program of the session, out of the translation. Lean checks it.
import Derived.Test.YtjkdheebgmnpmaaA0
namespace Go.Ab
set_option linter.unusedVariables false
set_option maxRecDepth 100000
/-! keyhole/jval.Put -/
def A_jval_Put_j1 : ACode := .seq (.draws [⟨⟨(some 36), .buildSl 1 false 0 (.str ⟨#[]⟩) [], none, none⟩, []⟩,
  ⟨⟨(some 37), .fadr 5 (.t 3), none, none⟩, []⟩,
  ⟨⟨(some 38), .load 1 false (.t 37), none, none⟩, [1]⟩,
  ⟨⟨(some 39), .mov (.t 7), none, some (.int .i64)⟩, []⟩,
  ⟨⟨(some 40), .slice (.sl 1 false) (.t 38) none (some (.t 39)) none, none, none⟩, [2, 3]⟩,
  ⟨⟨(some 41), .append 1 false 16 false (.t 36) (.t 40), none, none⟩, [0, 4]⟩,
  ⟨⟨(some 42), .mov (.t 1), none, some .str⟩, []⟩,
  ⟨⟨(some 43), .buildSl 1 false 1 (.str ⟨#[]⟩) [(0, (.t 42))], none, none⟩, [6]⟩,
  ⟨⟨(some 44), .append 1 false 16 false (.t 41) (.t 43), none, none⟩, [5, 7, 5]⟩,
  ⟨⟨(some 45), .fadr 5 (.t 3), none, none⟩, []⟩,
  ⟨⟨(some 46), .load 1 false (.t 45), none, none⟩, [9]⟩,
  ⟨⟨(some 47), .mov (.t 9), none, some (.int .i64)⟩, []⟩,
  ⟨⟨(some 48), .slice (.sl 1 false) (.t 46) (some (.t 47)) none none, none, none⟩, [10, 11]⟩,
  ⟨⟨(some 49), .append 1 false 16 false (.t 44) (.t 48), none, none⟩, [8, 12, 8]⟩,
  ⟨⟨(some 10), .mov (.t 49), none, none⟩, [13, 13, 0, 1, 2, 3, 4, 5, 6, 7, 8, 9, 10, 11, 12, 13]⟩])
 (.seq (.draws [⟨⟨(some 50), .buildSl 6 true 0 (.ag [.int .i64 0, .int .i64 0, .int .i64 0, .str ⟨#[]⟩, .sl [], .sl []]) [], none, none⟩, []⟩,
   ⟨⟨(some 51), .fadr 4 (.t 3), none, none⟩, []⟩,
   ⟨⟨(some 52), .load 1 false (.t 51), none, none⟩, [1]⟩,
   ⟨⟨(some 53), .mov (.t 7), none, some (.int .i64)⟩, []⟩,
   ⟨⟨(some 54), .slice (.sl 6 true) (.t 52) none (some (.t 53)) none, none, none⟩, [2, 3]⟩,
   ⟨⟨(some 55), .append 6 true 88 false (.t 50) (.t 54), none, none⟩, [0, 4]⟩,
   ⟨⟨(some 56), .load 6 true (.t 5), none, none⟩, []⟩,
   ⟨⟨(some 57), .buildSl 6 true 1 (.ag [.int .i64 0, .int .i64 0, .int .i64 0, .str ⟨#[]⟩, .sl [], .sl []]) [(0, (.t 56))], none, none⟩, [6]⟩,
   ⟨⟨(some 58), .append 6 true 88 false (.t 55) (.t 57), none, none⟩, [5, 7, 5]⟩,
   ⟨⟨(some 59), .fadr 4 (.t 3), none, none⟩, []⟩,
   ⟨⟨(some 60), .load 1 false (.t 59), none, none⟩, [9]⟩,
   ⟨⟨(some 61), .mov (.t 9), none, some (.int .i64)⟩, []⟩,
   ⟨⟨(some 62), .slice (.sl 6 true) (.t 60) (some (.t 61)) none none, none, none⟩, [10, 11]⟩,
   ⟨⟨(some 63), .append 6 true 88 false (.t 58) (.t 62), none, none⟩, [8, 12, 8]⟩,
   ⟨⟨(some 11), .mov (.t 63), none, none⟩, [13, 13, 0, 1, 2, 3, 4, 5, 6, 7, 8, 9, 10, 11, 12, 13]⟩])
  (.seq (.region [⟨(some 64), .mov (.t 10), none, none⟩,
    ⟨(some 65), .mov (.t 11), none, none⟩,
    ⟨(some 66), .build 6 [.fz (.int .i64 0), .fz (.int .i64 0), .fz (.int .i64 0), .fz (.str ⟨#[]⟩), .nils, .nils] [(0, 1, false, (.c (.fz (.int .i64 6)))), (5, 1, false, (.t 64)), (4, 1, false, (.t 65))], none, none⟩,
    ⟨none, .store 6 true (.t 6) (.t 66), none, none⟩])
   (.ret)))
def A_jval_Put_j2 : ACode := .seq (.region [⟨(some 26), .fadr 5 (.t 3), none, none⟩,
  ⟨(some 27), .load 1 false (.t 26), none, none⟩,
  ⟨(some 28), .mov (.t 1), none, some .str⟩,
  ⟨(some 29), .call N_jval_place [((.t 27), .fz), ((.t 28), .fz)] [.fz, .fz], none, none⟩,
  ⟨(some 25), .mov (.t 29), none, none⟩,
  ⟨(some 30), .extract (.t 25) 0, none, some (.int .i64)⟩,
  ⟨(some 31), .extract (.t 25) 1, none, some .bool⟩,
  ⟨(some 7), .mov (.t 30), none, some (.int .i64)⟩,
  ⟨(some 8), .mov (.t 31), none, some .bool⟩])
 (.seq (.region [⟨(some 32), .mov (.t 7), none, some (.int .i64)⟩,
   ⟨(some 9), .mov (.t 32), none, some (.int .i64)⟩])
  (.seq (.seq (.region [⟨(some 33), .mov (.t 8), none, some .bool⟩])
    (.cond (.t 33) (.region [⟨(some 34), .mov (.t 9), none, some (.int .i64)⟩,
      ⟨(some 35), .binI .add .i64 (.t 34) (.c (.fz (.int .i64 1))), none, some (.int .i64)⟩,
      ⟨(some 9), .mov (.t 35), none, some (.int .i64)⟩])
     (.skip)))
   (.trim [1, 3, 5, 6, 7, 9] A_jval_Put_j1)))
def A_jval_Put : AFunc := ⟨3, [(.cell 6 6 true, .fz)], .seq (.region [⟨(some 3), .box 6 true (.t 0), none, none⟩,
  ⟨(some 5), .box 6 true (.t 2), none, none⟩,
  ⟨(some 6), .alloc 6 true (.ag [.fz (.int .i64 0), .fz (.int .i64 0), .fz (.int .i64 0), .fz (.str ⟨#[]⟩), .nils, .nils]), none, none⟩])
 (.seq (.seq (.region [⟨(some 12), .fadr 0 (.t 3), none, none⟩,
    ⟨(some 13), .load 1 false (.t 12), none, some (.int .i64)⟩,
    ⟨(some 14), .binI .neq .i64 (.t 13) (.c (.fz (.int .i64 6))), none, some .bool⟩,
    ⟨(some 15), .mov (.t 14), none, some .bool⟩,
    ⟨(some 16), .fadr 5 (.t 3), (some (15, false)), none⟩,
    ⟨(some 17), .load 1 false (.t 16), (some (15, false)), none⟩,
    ⟨(some 18), .len (.sl 1 false) (.t 17), (some (15, false)), some (.int .i64)⟩,
    ⟨(some 19), .fadr 4 (.t 3), (some (15, false)), none⟩,
    ⟨(some 20), .load 1 false (.t 19), (some (15, false)), none⟩,
    ⟨(some 21), .len (.sl 6 true) (.t 20), (some (15, false)), some (.int .i64)⟩,
    ⟨(some 22), .binI .neq .i64 (.t 18) (.t 21), (some (15, false)), some .bool⟩,
    ⟨(some 23), .pick (.t 15) (.c (.fz (.bool true))) (.t 22), none, some .bool⟩])
   (.cond (.t 23) (.seq (.region [⟨(some 24), .load 6 true (.t 3), none, none⟩,
      ⟨none, .store 6 true (.t 6) (.t 24), none, none⟩])
     (.ret))
    (.skip)))
  (.trim [1, 3, 5, 6] A_jval_Put_j2))⟩
def J_jval_Put_2_0 (R : Orc) (k : Nat) (w : Bool) (x1 : ByteArray) (h4096_0 : Int) (h4096_1 : Int) (h4096_2 : Int) (h4096_3 : ByteArray) (h4096_4 : List FV) (h4096_5 : List FV) (h4097_0 : Int) (h4097_1 : Int) (h4097_2 : Int) (h4097_3 : ByteArray) (h4097_4 : List FV) (h4097_5 : List FV) (h4098_0 : Int) (h4098_1 : Int) (h4098_2 : Int) (h4098_3 : ByteArray) := execL R k w [] A_jval_Put_j2 Ans ⟨[(1, .fz (FV.str x1)), (3, .ptr 4096 0 0), (5, .ptr 4097 0 0), (6, .ptr 4098 0 0)], [(4095, .dead), (4096, .var 6 true (.fz (FV.ag [(FV.int .i64 h4096_0), (FV.int .i64 h4096_1), (FV.int .i64 h4096_2), (FV.str h4096_3), (FV.sl h4096_4), (FV.sl h4096_5)]))), (4097, .var 6 true (.fz (FV.ag [(FV.int .i64 h4097_0), (FV.int .i64 h4097_1), (FV.int .i64 h4097_2), (FV.str h4097_3), (FV.sl h4097_4), (FV.sl h4097_5)]))), (4098, .var 6 true (.ag [.fz (FV.int .i64 h4098_0), .fz (FV.int .i64 h4098_1), .fz (FV.int .i64 h4098_2), .fz (FV.str h4098_3), .nils, .nils]))]⟩ (kFin R [(.cell 6 6 true, .fz)] [])
def J_jval_Put_1_0 (R : Orc) (k : Nat) (w : Bool) (x1 : ByteArray) (x7 : Int) (x9 : Int) (h4096_0 : Int) (h4096_1 : Int) (h4096_2 : Int) (h4096_3 : ByteArray) (h4096_4 : List FV) (h4096_5 : List FV) (h4097_0 : Int) (h4097_1 : Int) (h4097_2 : Int) (h4097_3 : ByteArray) (h4097_4 : List FV) (h4097_5 : List FV) (h4098_0 : Int) (h4098_1 : Int) (h4098_2 : Int) (h4098_3 : ByteArray) := execL R k w [] A_jval_Put_j1 Ans ⟨[(1, .fz (FV.str x1)), (3, .ptr 4096 0 0), (5, .ptr 4097 0 0), (6, .ptr 4098 0 0), (7, .fz (FV.int .i64 x7)), (9, .fz (FV.int .i64 x9))], [(4095, .dead), (4096, .var 6 true (.fz (FV.ag [(FV.int .i64 h4096_0), (FV.int .i64 h4096_1), (FV.int .i64 h4096_2), (FV.str h4096_3), (FV.sl h4096_4), (FV.sl h4096_5)]))), (4097, .var 6 true (.fz (FV.ag [(FV.int .i64 h4097_0), (FV.int .i64 h4097_1), (FV.int .i64 h4097_2), (FV.str h4097_3), (FV.sl h4097_4), (FV.sl h4097_5)]))), (4098, .var 6 true (.ag [.fz (FV.int .i64 h4098_0), .fz (FV.int .i64 h4098_1), .fz (FV.int .i64 h4098_2), .fz (FV.str h4098_3), .nils, .nils]))]⟩ (kFin R [(.cell 6 6 true, .fz)] [])
theorem E_jval_Put (R : Orc) (k : Nat) (w : Bool) (a0_0 : Int) (a0_1_0 : Int) (a0_1_1 : Int) (a0_2 : ByteArray) (a0_3 : List FV) (a0_4 : List FV) (a1 : ByteArray) (a2_0 : Int) (a2_1_0 : Int) (a2_1_1 : Int) (a2_2 : ByteArray) (a2_3 : List FV) (a2_4 : List FV) : callL R k w A_jval_Put [.fz (FV.ag [(FV.int .i64 a0_0), (FV.int .i64 a0_1_0), (FV.int .i64 a0_1_1), (FV.str a0_2), (FV.sl a0_3), (FV.sl a0_4)]), .fz (FV.str a1), .fz (FV.ag [(FV.int .i64 a2_0), (FV.int .i64 a2_1_0), (FV.int .i64 a2_1_1), (FV.str a2_2), (FV.sl a2_3), (FV.sl a2_4)])] = ifB (a0_0 != 6)
  (some ([.fz (FV.ag [(FV.int .i64 a0_0), (FV.int .i64 a0_1_0), (FV.int .i64 a0_1_1), (FV.str a0_2), (FV.sl a0_3), (FV.sl a0_4)])], []))
  (ifB ((List.length a0_4 : Int) != (List.length a0_3 : Int))
   (some ([.fz (FV.ag [(FV.int .i64 a0_0), (FV.int .i64 a0_1_0), (FV.int .i64 a0_1_1), (FV.str a0_2), (FV.sl a0_3), (FV.sl a0_4)])], []))
   (jump w (J_jval_Put_2_0 R k w a1 a0_0 a0_1_0 a0_1_1 a0_2 a0_3 a0_4 a2_0 a2_1_0 a2_1_1 a2_2 a2_3 a2_4 0 0 0 (⟨#[]⟩ : ByteArray)))) := by kernel_rfl
theorem J_jval_Put_2_0_eq (R : Orc) (k : Nat) (w : Bool) (x1 : ByteArray) (h4096_0 : Int) (h4096_1 : Int) (h4096_2 : Int) (h4096_3 : ByteArray) (h4096_4 : List FV) (h4096_5 : List FV) (h4097_0 : Int) (h4097_1 : Int) (h4097_2 : Int) (h4097_3 : ByteArray) (h4097_4 : List FV) (h4097_5 : List FV) (h4098_0 : Int) (h4098_1 : Int) (h4098_2 : Int) (h4098_3 : ByteArray) : J_jval_Put_2_0 R k w x1 h4096_0 h4096_1 h4096_2 h4096_3 h4096_4 h4096_5 h4097_0 h4097_1 h4097_2 h4097_3 h4097_4 h4097_5 h4098_0 h4098_1 h4098_2 h4098_3 = onR (R N_jval_place [.fz (FV.sl h4096_5), .fz (FV.str x1)]) fun r0 => when (List.isEmpty r0.2 && allF [.fz, .fz] r0.1) (when (FV.isInt .i64 (TV.toF (List.getD r0.1 0 TV.em))) (when (FV.isBool (TV.toF (List.getD r0.1 1 TV.em))) (ifB (FV.toBool (TV.toF (List.getD r0.1 1 TV.em)))
  (jump w (J_jval_Put_1_0 R k w x1 (FV.toInt (TV.toF (List.getD r0.1 0 TV.em))) (IntKind.wrap .i64 ((FV.toInt (TV.toF (List.getD r0.1 0 TV.em))) + 1)) h4096_0 h4096_1 h4096_2 h4096_3 h4096_4 h4096_5 h4097_0 h4097_1 h4097_2 h4097_3 h4097_4 h4097_5 h4098_0 h4098_1 h4098_2 h4098_3))
  (jump w (J_jval_Put_1_0 R k w x1 (FV.toInt (TV.toF (List.getD r0.1 0 TV.em))) (FV.toInt (TV.toF (List.getD r0.1 0 TV.em))) h4096_0 h4096_1 h4096_2 h4096_3 h4096_4 h4096_5 h4097_0 h4097_1 h4097_2 h4097_3 h4097_4 h4097_5 h4098_0 h4098_1 h4098_2 h4098_3))))) := by kernel_rfl
theorem J_jval_Put_1_0_eq (R : Orc) (k : Nat) (w : Bool) (x1 : ByteArray) (x7 : Int) (x9 : Int) (h4096_0 : Int) (h4096_1 : Int) (h4096_2 : Int) (h4096_3 : ByteArray) (h4096_4 : List FV) (h4096_5 : List FV) (h4097_0 : Int) (h4097_1 : Int) (h4097_2 : Int) (h4097_3 : ByteArray) (h4097_4 : List FV) (h4097_5 : List FV) (h4098_0 : Int) (h4098_1 : Int) (h4098_2 : Int) (h4098_3 : ByteArray) : J_jval_Put_1_0 R k w x1 x7 x9 h4096_0 h4096_1 h4096_2 h4096_3 h4096_4 h4096_5 h4097_0 h4097_1 h4097_2 h4097_3 h4097_4 h4097_5 h4098_0 h4098_1 h4098_2 h4098_3 = when (List.all h4096_5 (FV.fits 1 false)) (when (decide (0 ≤ x7) && decide (x7 ≤ (List.length h4096_5 : Int))) (when (decide (0 ≤ 0) && decide (0 ≤ x7)) (when (List.all (List.drop 0 (List.take (Int.toNat x7) h4096_5)) (FV.fits 1 false)) (when (decide (((0 : Nat) + List.length (List.drop 0 (List.take (Int.toNat x7) h4096_5))) * 16 ≤ roomy) && decide ((0 : Nat) + List.length (List.drop 0 (List.take (Int.toNat x7) h4096_5)) ≤ roomy)) (when (decide ((List.length (List.drop 0 (List.take (Int.toNat x7) h4096_5)) + List.length [(FV.str x1)]) * 16 ≤ roomy) && decide (List.length (List.drop 0 (List.take (Int.toNat x7) h4096_5)) + List.length [(FV.str x1)] ≤ roomy)) (when (List.all h4096_5 (FV.fits 1 false)) (when (decide (0 ≤ (List.length h4096_5 : Int)) && decide ((List.length h4096_5 : Int) ≤ (List.length h4096_5 : Int))) (when (decide (0 ≤ x9) && decide (x9 ≤ (List.length h4096_5 : Int))) (when (List.all (List.drop (Int.toNat x9) (List.take (Int.toNat (List.length h4096_5 : Int)) h4096_5)) (FV.fits 1 false)) (when (decide ((List.length ((List.drop 0 (List.take (Int.toNat x7) h4096_5)) ++ [(FV.str x1)]) + List.length (List.drop (Int.toNat x9) (List.take (Int.toNat (List.length h4096_5 : Int)) h4096_5))) * 16 ≤ roomy) && decide (List.length ((List.drop 0 (List.take (Int.toNat x7) h4096_5)) ++ [(FV.str x1)]) + List.length (List.drop (Int.toNat x9) (List.take (Int.toNat (List.length h4096_5 : Int)) h4096_5)) ≤ roomy)) (when (List.all h4096_4 (FV.fits 6 true)) (when (decide (0 ≤ x7) && decide (x7 ≤ (List.length h4096_4 : Int))) (when (decide (0 ≤ 0) && decide (0 ≤ x7)) (when (List.all (List.drop 0 (List.take (Int.toNat x7) h4096_4)) (FV.fits 6 true)) (when (decide (((0 : Nat) + List.length (List.drop 0 (List.take (Int.toNat x7) h4096_4))) * 88 ≤ roomy) && decide ((0 : Nat) + List.length (List.drop 0 (List.take (Int.toNat x7) h4096_4)) ≤ roomy)) (when (decide ((List.length (List.drop 0 (List.take (Int.toNat x7) h4096_4)) + List.length [(FV.ag [(FV.int .i64 h4097_0), (FV.int .i64 h4097_1), (FV.int .i64 h4097_2), (FV.str h4097_3), (FV.sl h4097_4), (FV.sl h4097_5)])]) * 88 ≤ roomy) && decide (List.length (List.drop 0 (List.take (Int.toNat x7) h4096_4)) + List.length [(FV.ag [(FV.int .i64 h4097_0), (FV.int .i64 h4097_1), (FV.int .i64 h4097_2), (FV.str h4097_3), (FV.sl h4097_4), (FV.sl h4097_5)])] ≤ roomy)) (when (List.all h4096_4 (FV.fits 6 true)) (when (decide (0 ≤ (List.length h4096_4 : Int)) && decide ((List.length h4096_4 : Int) ≤ (List.length h4096_4 : Int))) (when (decide (0 ≤ x9) && decide (x9 ≤ (List.length h4096_4 : Int))) (when (List.all (List.drop (Int.toNat x9) (List.take (Int.toNat (List.length h4096_4 : Int)) h4096_4)) (FV.fits 6 true)) (when (decide ((List.length ((List.drop 0 (List.take (Int.toNat x7) h4096_4)) ++ [(FV.ag [(FV.int .i64 h4097_0), (FV.int .i64 h4097_1), (FV.int .i64 h4097_2), (FV.str h4097_3), (FV.sl h4097_4), (FV.sl h4097_5)])]) + List.length (List.drop (Int.toNat x9) (List.take (Int.toNat (List.length h4096_4 : Int)) h4096_4))) * 88 ≤ roomy) && decide (List.length ((List.drop 0 (List.take (Int.toNat x7) h4096_4)) ++ [(FV.ag [(FV.int .i64 h4097_0), (FV.int .i64 h4097_1), (FV.int .i64 h4097_2), (FV.str h4097_3), (FV.sl h4097_4), (FV.sl h4097_5)])]) + List.length (List.drop (Int.toNat x9) (List.take (Int.toNat (List.length h4096_4 : Int)) h4096_4)) ≤ roomy)) (some ([.fz (FV.ag [(FV.int .i64 6), (FV.int .i64 0), (FV.int .i64 0), (FV.str (⟨#[]⟩ : ByteArray)), (FV.sl (((List.drop 0 (List.take (Int.toNat x7) h4096_4)) ++ [(FV.ag [(FV.int .i64 h4097_0), (FV.int .i64 h4097_1), (FV.int .i64 h4097_2), (FV.str h4097_3), (FV.sl h4097_4), (FV.sl h4097_5)])]) ++ (List.drop (Int.toNat x9) (List.take (Int.toNat (List.length h4096_4 : Int)) h4096_4)))), (FV.sl (((List.drop 0 (List.take (Int.toNat x7) h4096_5)) ++ [(FV.str x1)]) ++ (List.drop (Int.toNat x9) (List.take (Int.toNat (List.length h4096_5 : Int)) h4096_5))))])], []))))))))))))))))))))))) := by kernel_rfl
/-! keyhole/keyholeref05.Same -/
def A_ref05_Same_b1 : ACode := .seq (.seq (.region [⟨(some 44), .mov (.t 5), none, some (.int .i64)⟩,
   ⟨(some 45), .fadr 5 (.t 2), none, none⟩,
   ⟨(some 46), .load 1 false (.t 45), none, none⟩,
   ⟨(some 47), .len (.sl 1 false) (.t 46), none, some (.int .i64)⟩,
   ⟨(some 48), .binI .lss .i64 (.t 44) (.t 47), none, some .bool⟩])
  (.cond (.t 48) (.skip)
   (.exit 0)))
 (.seq (.block 1 (.seq (.draws [⟨⟨(some 51), .fadr 5 (.t 2), none, none⟩, []⟩,
     ⟨⟨(some 52), .load 1 false (.t 51), none, none⟩, [0]⟩,
     ⟨⟨(some 53), .mov (.t 5), none, some (.int .i64)⟩, []⟩,
     ⟨⟨(some 54), .iadr (.sl 1 false) (.t 52) (.t 53), none, none⟩, [1, 2]⟩,
     ⟨⟨(some 55), .load 1 false (.t 54), none, some .str⟩, [3]⟩,
     ⟨⟨(some 56), .fadr 5 (.t 3), none, none⟩, []⟩,
     ⟨⟨(some 57), .load 1 false (.t 56), none, none⟩, [5]⟩,
     ⟨⟨(some 58), .mov (.t 5), none, some (.int .i64)⟩, []⟩,
     ⟨⟨(some 59), .iadr (.sl 1 false) (.t 57) (.t 58), none, none⟩, [6, 7]⟩,
     ⟨⟨(some 60), .load 1 false (.t 59), none, some .str⟩, [8]⟩,
     ⟨⟨(some 61), .binS .neq (.t 55) (.t 60), none, some .bool⟩, [4, 9]⟩])
    (.cond (.t 61) (.seq (.region [⟨(some 4), .mov (.c (.fz (.bool false))), none, some .bool⟩])
      (.ret))
     (.skip))))
  (.region [⟨(some 49), .mov (.t 5), none, some (.int .i64)⟩,
   ⟨(some 50), .binI .add .i64 (.t 49) (.c (.fz (.int .i64 1))), none, some (.int .i64)⟩,
   ⟨(some 5), .mov (.t 50), none, some (.int .i64)⟩]))
def A_ref05_Same_b2 : ACode := .seq (.seq (.region [⟨(some 62), .mov (.t 6), none, some (.int .i64)⟩,
   ⟨(some 63), .fadr 4 (.t 2), none, none⟩,
   ⟨(some 64), .load 1 false (.t 63), none, none⟩,
   ⟨(some 65), .len (.sl 6 true) (.t 64), none, some (.int .i64)⟩,
   ⟨(some 66), .binI .lss .i64 (.t 62) (.t 65), none, some .bool⟩])
  (.cond (.t 66) (.skip)
   (.exit 2)))
 (.seq (.block 3 (.seq (.draws [⟨⟨(some 69), .fadr 4 (.t 2), none, none⟩, []⟩,
     ⟨⟨(some 70), .load 1 false (.t 69), none, none⟩, [0]⟩,
     ⟨⟨(some 71), .mov (.t 6), none, some (.int .i64)⟩, []⟩,
     ⟨⟨(some 72), .iadr (.sl 6 true) (.t 70) (.t 71), none, none⟩, [1, 2]⟩,
     ⟨⟨(some 73), .load 6 true (.t 72), none, none⟩, [3]⟩,
     ⟨⟨(some 74), .fadr 4 (.t 3), none, none⟩, []⟩,
     ⟨⟨(some 75), .load 1 false (.t 74), none, none⟩, [5]⟩,
     ⟨⟨(some 76), .mov (.t 6), none, some (.int .i64)⟩, []⟩,
     ⟨⟨(some 77), .iadr (.sl 6 true) (.t 75) (.t 76), none, none⟩, [6, 7]⟩,
     ⟨⟨(some 78), .load 6 true (.t 77), none, none⟩, [8]⟩,
     ⟨⟨(some 79), .call N_ref05_Same [((.t 73), .fz), ((.t 78), .fz)] [.fz], none, some .bool⟩, [4, 9]⟩,
     ⟨⟨(some 80), .notB (.t 79), none, some .bool⟩, [10]⟩])
    (.cond (.t 80) (.seq (.region [⟨(some 4), .mov (.c (.fz (.bool false))), none, some .bool⟩])
      (.ret))
     (.skip))))
  (.region [⟨(some 67), .mov (.t 6), none, some (.int .i64)⟩,
   ⟨(some 68), .binI .add .i64 (.t 67) (.c (.fz (.int .i64 1))), none, some (.int .i64)⟩,
   ⟨(some 6), .mov (.t 68), none, some (.int .i64)⟩]))
def A_ref05_Same_s1 : ACode := .seq (.region [⟨(some 4), .mov (.c (.fz (.bool true))), none, some .bool⟩])
 (.ret)
def A_ref05_Same_s2 : ACode := .seq (.seq (.region [⟨(some 6), .mov (.c (.fz (.int .i64 0))), none, some (.int .i64)⟩])
  (.block 2 (.loop [2, 3, 6] [4] A_ref05_Same_b2)))
 A_ref05_Same_s1
def A_ref05_Same_j3 : ACode := .seq (.seq (.region [⟨(some 5), .mov (.c (.fz (.int .i64 0))), none, some (.int .i64)⟩])
  (.block 0 (.loop [2, 3, 5] [2, 3, 4] A_ref05_Same_b1)))
 A_ref05_Same_s2
def A_ref05_Same : AFunc := ⟨2, [(.tmp 4, .fz)], .seq (.region [⟨(some 2), .box 6 true (.t 0), none, none⟩,
  ⟨(some 3), .box 6 true (.t 1), none, none⟩,
  ⟨(some 4), .mov (.c (.fz (.bool false))), none, some .bool⟩])
 (.seq (.seq (.region [⟨(some 7), .fadr 0 (.t 2), none, none⟩,
    ⟨(some 8), .load 1 false (.t 7), none, some (.int .i64)⟩,
    ⟨(some 9), .fadr 0 (.t 3), none, none⟩,
    ⟨(some 10), .load 1 false (.t 9), none, some (.int .i64)⟩,
    ⟨(some 11), .binI .neq .i64 (.t 8) (.t 10), none, some .bool⟩,
    ⟨(some 12), .mov (.t 11), none, some .bool⟩,
    ⟨(some 13), .fadr 1 (.t 2), (some (12, false)), none⟩,
    ⟨(some 14), .load 2 true (.t 13), (some (12, false)), none⟩,
    ⟨(some 15), .fadr 1 (.t 3), (some (12, false)), none⟩,
    ⟨(some 16), .load 2 true (.t 15), (some (12, false)), none⟩,
    ⟨(some 17), .eqA true [.int .i64, .int .i64] (.t 14) (.t 16), (some (12, false)), some .bool⟩,
    ⟨(some 18), .pick (.t 12) (.c (.fz (.bool true))) (.t 17), none, some .bool⟩,
    ⟨(some 19), .mov (.t 18), none, some .bool⟩,
    ⟨(some 20), .fadr 3 (.t 2), (some (19, false)), none⟩,
    ⟨(some 21), .load 1 false (.t 20), (some (19, false)), some .str⟩,
    ⟨(some 22), .fadr 3 (.t 3), (some (19, false)), none⟩,
    ⟨(some 23), .load 1 false (.t 22), (some (19, false)), some .str⟩,
    ⟨(some 24), .binS .neq (.t 21) (.t 23), (some (19, false)), some .bool⟩,
    ⟨(some 25), .pick (.t 19) (.c (.fz (.bool true))) (.t 24), none, some .bool⟩,
    ⟨(some 26), .mov (.t 25), none, some .bool⟩,
    ⟨(some 27), .fadr 4 (.t 2), (some (26, false)), none⟩,
    ⟨(some 28), .load 1 false (.t 27), (some (26, false)), none⟩,
    ⟨(some 29), .len (.sl 6 true) (.t 28), (some (26, false)), some (.int .i64)⟩,
    ⟨(some 30), .fadr 4 (.t 3), (some (26, false)), none⟩,
    ⟨(some 31), .load 1 false (.t 30), (some (26, false)), none⟩,
    ⟨(some 32), .len (.sl 6 true) (.t 31), (some (26, false)), some (.int .i64)⟩,
    ⟨(some 33), .binI .neq .i64 (.t 29) (.t 32), (some (26, false)), some .bool⟩,
    ⟨(some 34), .pick (.t 26) (.c (.fz (.bool true))) (.t 33), none, some .bool⟩,
    ⟨(some 35), .mov (.t 34), none, some .bool⟩,
    ⟨(some 36), .fadr 5 (.t 2), (some (35, false)), none⟩,
    ⟨(some 37), .load 1 false (.t 36), (some (35, false)), none⟩,
    ⟨(some 38), .len (.sl 1 false) (.t 37), (some (35, false)), some (.int .i64)⟩,
    ⟨(some 39), .fadr 5 (.t 3), (some (35, false)), none⟩,
    ⟨(some 40), .load 1 false (.t 39), (some (35, false)), none⟩,
    ⟨(some 41), .len (.sl 1 false) (.t 40), (some (35, false)), some (.int .i64)⟩,
    ⟨(some 42), .binI .neq .i64 (.t 38) (.t 41), (some (35, false)), some .bool⟩,
    ⟨(some 43), .pick (.t 35) (.c (.fz (.bool true))) (.t 42), none, some .bool⟩])
   (.cond (.t 43) (.seq (.region [⟨(some 4), .mov (.c (.fz (.bool false))), none, some .bool⟩])
     (.ret))
    (.skip)))
  (.trim [2, 3] A_ref05_Same_j3))⟩
def J_ref05_Same_3_0 (R : Orc) (k : Nat) (w : Bool) (h4096_0 : Int) (h4096_1 : Int) (h4096_2 : Int) (h4096_3 : ByteArray) (h4096_4 : List FV) (h4096_5 : List FV) (h4097_0 : Int) (h4097_1 : Int) (h4097_2 : Int) (h4097_3 : ByteArray) (h4097_4 : List FV) (h4097_5 : List FV) := execL R k w [] A_ref05_Same_j3 Ans ⟨[(2, .ptr 4096 0 0), (3, .ptr 4097 0 0)], [(4095, .dead), (4096, .var 6 true (.fz (FV.ag [(FV.int .i64 h4096_0), (FV.int .i64 h4096_1), (FV.int .i64 h4096_2), (FV.str h4096_3), (FV.sl h4096_4), (FV.sl h4096_5)]))), (4097, .var 6 true (.fz (FV.ag [(FV.int .i64 h4097_0), (FV.int .i64 h4097_1), (FV.int .i64 h4097_2), (FV.str h4097_3), (FV.sl h4097_4), (FV.sl h4097_5)])))]⟩ (kFin R [(.tmp 4, .fz)] [])
def K_ref05_Same_1 (R : Orc) (k : Nat) (w : Bool) : AExit → St → Option Ans := (kBlk 0 (kSeq R k w [] A_ref05_Same_s2 (kFin R [(.tmp 4, .fz)] [])))
def L_ref05_Same_1_0 (R : Orc) (k : Nat) (w : Bool) (n : Nat) (x5 : Int) (h4096_0 : Int) (h4096_1 : Int) (h4096_2 : Int) (h4096_3 : ByteArray) (h4096_4 : List FV) (h4096_5 : List FV) (h4097_0 : Int) (h4097_1 : Int) (h4097_2 : Int) (h4097_3 : ByteArray) (h4097_4 : List FV) (h4097_5 : List FV) := loopL R k w [] [2, 3, 5] [2, 3, 4] A_ref05_Same_b1 n ⟨[(2, .ptr 4096 0 0), (3, .ptr 4097 0 0), (5, .fz (FV.int .i64 x5))], [(4095, .dead), (4096, .var 6 true (.fz (FV.ag [(FV.int .i64 h4096_0), (FV.int .i64 h4096_1), (FV.int .i64 h4096_2), (FV.str h4096_3), (FV.sl h4096_4), (FV.sl h4096_5)]))), (4097, .var 6 true (.fz (FV.ag [(FV.int .i64 h4097_0), (FV.int .i64 h4097_1), (FV.int .i64 h4097_2), (FV.str h4097_3), (FV.sl h4097_4), (FV.sl h4097_5)])))]⟩
def X_ref05_Same_1_0 (x4 : Bool) (h4096_0 : Int) (h4096_1 : Int) (h4096_2 : Int) (h4096_3 : ByteArray) (h4096_4 : List FV) (h4096_5 : List FV) (h4097_0 : Int) (h4097_1 : Int) (h4097_2 : Int) (h4097_3 : ByteArray) (h4097_4 : List FV) (h4097_5 : List FV) : St := ⟨[(2, .ptr 4096 0 0), (3, .ptr 4097 0 0), (4, .fz (FV.bool x4))], [(4095, .dead), (4096, .var 6 true (.fz (FV.ag [(FV.int .i64 h4096_0), (FV.int .i64 h4096_1), (FV.int .i64 h4096_2), (FV.str h4096_3), (FV.sl h4096_4), (FV.sl h4096_5)]))), (4097, .var 6 true (.fz (FV.ag [(FV.int .i64 h4097_0), (FV.int .i64 h4097_1), (FV.int .i64 h4097_2), (FV.str h4097_3), (FV.sl h4097_4), (FV.sl h4097_5)])))]⟩
def X_ref05_Same_1_1 (h4096_0 : Int) (h4096_1 : Int) (h4096_2 : Int) (h4096_3 : ByteArray) (h4096_4 : List FV) (h4096_5 : List FV) (h4097_0 : Int) (h4097_1 : Int) (h4097_2 : Int) (h4097_3 : ByteArray) (h4097_4 : List FV) (h4097_5 : List FV) : St := ⟨[(2, .ptr 4096 0 0), (3, .ptr 4097 0 0)], [(4095, .dead), (4096, .var 6 true (.fz (FV.ag [(FV.int .i64 h4096_0), (FV.int .i64 h4096_1), (FV.int .i64 h4096_2), (FV.str h4096_3), (FV.sl h4096_4), (FV.sl h4096_5)]))), (4097, .var 6 true (.fz (FV.ag [(FV.int .i64 h4097_0), (FV.int .i64 h4097_1), (FV.int .i64 h4097_2), (FV.str h4097_3), (FV.sl h4097_4), (FV.sl h4097_5)])))]⟩
def K_ref05_Same_2 (R : Orc) (k : Nat) (w : Bool) : AExit → St → Option Ans := (kBlk 2 (kSeq R k w [] A_ref05_Same_s1 (kFin R [(.tmp 4, .fz)] [])))
def L_ref05_Same_2_0 (R : Orc) (k : Nat) (w : Bool) (n : Nat) (x6 : Int) (h4096_0 : Int) (h4096_1 : Int) (h4096_2 : Int) (h4096_3 : ByteArray) (h4096_4 : List FV) (h4096_5 : List FV) (h4097_0 : Int) (h4097_1 : Int) (h4097_2 : Int) (h4097_3 : ByteArray) (h4097_4 : List FV) (h4097_5 : List FV) := loopL R k w [] [2, 3, 6] [4] A_ref05_Same_b2 n ⟨[(2, .ptr 4096 0 0), (3, .ptr 4097 0 0), (6, .fz (FV.int .i64 x6))], [(4095, .dead), (4096, .var 6 true (.fz (FV.ag [(FV.int .i64 h4096_0), (FV.int .i64 h4096_1), (FV.int .i64 h4096_2), (FV.str h4096_3), (FV.sl h4096_4), (FV.sl h4096_5)]))), (4097, .var 6 true (.fz (FV.ag [(FV.int .i64 h4097_0), (FV.int .i64 h4097_1), (FV.int .i64 h4097_2), (FV.str h4097_3), (FV.sl h4097_4), (FV.sl h4097_5)])))]⟩
def X_ref05_Same_2_0 (x4 : Bool) : St := ⟨[(4, .fz (FV.bool x4))], [(4095, .dead)]⟩
def X_ref05_Same_2_1 : St := ⟨[], [(4095, .dead)]⟩
theorem E_ref05_Same (R : Orc) (k : Nat) (w : Bool) (a0_0 : Int) (a0_1_0 : Int) (a0_1_1 : Int) (a0_2 : ByteArray) (a0_3 : List FV) (a0_4 : List FV) (a1_0 : Int) (a1_1_0 : Int) (a1_1_1 : Int) (a1_2 : ByteArray) (a1_3 : List FV) (a1_4 : List FV) : callL R k w A_ref05_Same [.fz (FV.ag [(FV.int .i64 a0_0), (FV.int .i64 a0_1_0), (FV.int .i64 a0_1_1), (FV.str a0_2), (FV.sl a0_3), (FV.sl a0_4)]), .fz (FV.ag [(FV.int .i64 a1_0), (FV.int .i64 a1_1_0), (FV.int .i64 a1_1_1), (FV.str a1_2), (FV.sl a1_3), (FV.sl a1_4)])] = ifB (a0_0 != a1_0)
  (some ([.fz (FV.bool false)], []))
  (ifB (!((a0_1_0 == a1_1_0) && ((a0_1_1 == a1_1_1) && true)))
   (some ([.fz (FV.bool false)], []))
   (ifB (!(ByteArray.toList a0_2 == ByteArray.toList a1_2))
    (some ([.fz (FV.bool false)], []))
    (ifB ((List.length a0_3 : Int) != (List.length a1_3 : Int))
     (some ([.fz (FV.bool false)], []))
     (ifB ((List.length a0_4 : Int) != (List.length a1_4 : Int))
      (some ([.fz (FV.bool false)], []))
      (jump w (J_ref05_Same_3_0 R k w a0_0 a0_1_0 a0_1_1 a0_2 a0_3 a0_4 a1_0 a1_1_0 a1_1_1 a1_2 a1_3 a1_4)))))) := by kernel_rfl
theorem J_ref05_Same_3_0_eq (R : Orc) (k : Nat) (w : Bool) (h4096_0 : Int) (h4096_1 : Int) (h4096_2 : Int) (h4096_3 : ByteArray) (h4096_4 : List FV) (h4096_5 : List FV) (h4097_0 : Int) (h4097_1 : Int) (h4097_2 : Int) (h4097_3 : ByteArray) (h4097_4 : List FV) (h4097_5 : List FV) : J_ref05_Same_3_0 R k w h4096_0 h4096_1 h4096_2 h4096_3 h4096_4 h4096_5 h4097_0 h4097_1 h4097_2 h4097_3 h4097_4 h4097_5 = onL (L_ref05_Same_1_0 R k w k 0 h4096_0 h4096_1 h4096_2 h4096_3 h4096_4 h4096_5 h4097_0 h4097_1 h4097_2 h4097_3 h4097_4 h4097_5) (K_ref05_Same_1 R k w) := by kernel_rfl
theorem L_ref05_Same_1_0_eq (R : Orc) (k : Nat) (w : Bool) (n : Nat) (x5 : Int) (h4096_0 : Int) (h4096_1 : Int) (h4096_2 : Int) (h4096_3 : ByteArray) (h4096_4 : List FV) (h4096_5 : List FV) (h4097_0 : Int) (h4097_1 : Int) (h4097_2 : Int) (h4097_3 : ByteArray) (h4097_4 : List FV) (h4097_5 : List FV) : L_ref05_Same_1_0 R k w (n + 1) x5 h4096_0 h4096_1 h4096_2 h4096_3 h4096_4 h4096_5 h4097_0 h4097_1 h4097_2 h4097_3 h4097_4 h4097_5 = ifB (decide (x5 < (List.length h4096_5 : Int)))
  (when ((decide (0 ≤ x5)) && (decide (x5 < (List.length h4096_5 : Int)))) (when (FV.fits 1 false (List.getD h4096_5 (Int.toNat x5) FV.nilp)) (when (FV.isStr (List.getD h4096_5 (Int.toNat x5) FV.nilp)) (when ((decide (0 ≤ x5)) && (decide (x5 < (List.length h4097_5 : Int)))) (when (FV.fits 1 false (List.getD h4097_5 (Int.toNat x5) FV.nilp)) (when (FV.isStr (List.getD h4097_5 (Int.toNat x5) FV.nilp)) (ifB (!(ByteArray.toList (FV.toStr (List.getD h4096_5 (Int.toNat x5) FV.nilp)) == ByteArray.toList (FV.toStr (List.getD h4097_5 (Int.toNat x5) FV.nilp))))
   (some (.ret, X_ref05_Same_1_0 false h4096_0 h4096_1 h4096_2 h4096_3 h4096_4 h4096_5 h4097_0 h4097_1 h4097_2 h4097_3 h4097_4 h4097_5))
   (L_ref05_Same_1_0 R k w n (IntKind.wrap .i64 (x5 + 1)) h4096_0 h4096_1 h4096_2 h4096_3 h4096_4 h4096_5 h4097_0 h4097_1 h4097_2 h4097_3 h4097_4 h4097_5))))))))
  (some ((.exit 0), X_ref05_Same_1_1 h4096_0 h4096_1 h4096_2 h4096_3 h4096_4 h4096_5 h4097_0 h4097_1 h4097_2 h4097_3 h4097_4 h4097_5)) := by kernel_rfl
theorem X_ref05_Same_1_0_eq (R : Orc) (k : Nat) (w : Bool) (x4 : Bool) (h4096_0 : Int) (h4096_1 : Int) (h4096_2 : Int) (h4096_3 : ByteArray) (h4096_4 : List FV) (h4096_5 : List FV) (h4097_0 : Int) (h4097_1 : Int) (h4097_2 : Int) (h4097_3 : ByteArray) (h4097_4 : List FV) (h4097_5 : List FV) : K_ref05_Same_1 R k w .ret (X_ref05_Same_1_0 x4 h4096_0 h4096_1 h4096_2 h4096_3 h4096_4 h4096_5 h4097_0 h4097_1 h4097_2 h4097_3 h4097_4 h4097_5) = some ([.fz (FV.bool x4)], []) := by kernel_rfl
theorem X_ref05_Same_1_1_eq (R : Orc) (k : Nat) (w : Bool) (h4096_0 : Int) (h4096_1 : Int) (h4096_2 : Int) (h4096_3 : ByteArray) (h4096_4 : List FV) (h4096_5 : List FV) (h4097_0 : Int) (h4097_1 : Int) (h4097_2 : Int) (h4097_3 : ByteArray) (h4097_4 : List FV) (h4097_5 : List FV) : K_ref05_Same_1 R k w (.exit 0) (X_ref05_Same_1_1 h4096_0 h4096_1 h4096_2 h4096_3 h4096_4 h4096_5 h4097_0 h4097_1 h4097_2 h4097_3 h4097_4 h4097_5) = onL (L_ref05_Same_2_0 R k w k 0 h4096_0 h4096_1 h4096_2 h4096_3 h4096_4 h4096_5 h4097_0 h4097_1 h4097_2 h4097_3 h4097_4 h4097_5) (K_ref05_Same_2 R k w) := by kernel_rfl
theorem L_ref05_Same_2_0_eq (R : Orc) (k : Nat) (w : Bool) (n : Nat) (x6 : Int) (h4096_0 : Int) (h4096_1 : Int) (h4096_2 : Int) (h4096_3 : ByteArray) (h4096_4 : List FV) (h4096_5 : List FV) (h4097_0 : Int) (h4097_1 : Int) (h4097_2 : Int) (h4097_3 : ByteArray) (h4097_4 : List FV) (h4097_5 : List FV) : L_ref05_Same_2_0 R k w (n + 1) x6 h4096_0 h4096_1 h4096_2 h4096_3 h4096_4 h4096_5 h4097_0 h4097_1 h4097_2 h4097_3 h4097_4 h4097_5 = ifB (decide (x6 < (List.length h4096_4 : Int)))
  (when ((decide (0 ≤ x6)) && (decide (x6 < (List.length h4096_4 : Int)))) (when (FV.fits 6 true (List.getD h4096_4 (Int.toNat x6) FV.nilp)) (when ((decide (0 ≤ x6)) && (decide (x6 < (List.length h4097_4 : Int)))) (when (FV.fits 6 true (List.getD h4097_4 (Int.toNat x6) FV.nilp)) (onR (R N_ref05_Same [.fz (List.getD h4096_4 (Int.toNat x6) FV.nilp), .fz (List.getD h4097_4 (Int.toNat x6) FV.nilp)]) fun r0 => when (List.isEmpty r0.2 && allF [.fz] r0.1) (when (FV.isBool (TV.toF (List.getD r0.1 0 TV.em))) (ifB (!(FV.toBool (TV.toF (List.getD r0.1 0 TV.em))))
   (some (.ret, X_ref05_Same_2_0 false))
   (L_ref05_Same_2_0 R k w n (IntKind.wrap .i64 (x6 + 1)) h4096_0 h4096_1 h4096_2 h4096_3 h4096_4 h4096_5 h4097_0 h4097_1 h4097_2 h4097_3 h4097_4 h4097_5))))))))
  (some ((.exit 2), X_ref05_Same_2_1)) := by kernel_rfl
theorem X_ref05_Same_2_0_eq (R : Orc) (k : Nat) (w : Bool) (x4 : Bool) : K_ref05_Same_2 R k w .ret (X_ref05_Same_2_0 x4) = some ([.fz (FV.bool x4)], []) := by kernel_rfl
theorem X_ref05_Same_2_1_eq (R : Orc) (k : Nat) (w : Bool) : K_ref05_Same_2 R k w (.exit 2) (X_ref05_Same_2_1) = some ([.fz (FV.bool true)], []) := by kernel_rfl
/-! keyhole/jval.Get -/
def A_jval_Get_j1 : ACode := .seq (.region [⟨(some 22), .fadr 5 (.t 2), none, none⟩,
  ⟨(some 23), .load 1 false (.t 22), none, none⟩,
  ⟨(some 24), .mov (.t 1), none, some .str⟩,
  ⟨(some 25), .call N_jval_place [((.t 23), .fz), ((.t 24), .fz)] [.fz, .fz], none, none⟩,
  ⟨(some 21), .mov (.t 25), none, none⟩,
  ⟨(some 26), .extract (.t 21) 0, none, some (.int .i64)⟩,
  ⟨(some 27), .extract (.t 21) 1, none, some .bool⟩,
  ⟨(some 6), .mov (.t 26), none, some (.int .i64)⟩,
  ⟨(some 7), .mov (.t 27), none, some .bool⟩])
 (.seq (.seq (.region [⟨(some 28), .mov (.t 7), none, some .bool⟩,
    ⟨(some 29), .notB (.t 28), none, some .bool⟩])
   (.cond (.t 29) (.seq (.region [⟨(some 30), .build 6 [.fz (.int .i64 0), .fz (.int .i64 0), .fz (.int .i64 0), .fz (.str ⟨#[]⟩), .nils, .nils] [], none, none⟩,
      ⟨none, .store 6 true (.t 4) (.t 30), none, none⟩,
      ⟨(some 5), .mov (.c (.fz (.bool false))), none, some .bool⟩])
     (.ret))
    (.skip)))
  (.seq (.region [⟨(some 31), .fadr 4 (.t 2), none, none⟩,
    ⟨(some 32), .load 1 false (.t 31), none, none⟩,
    ⟨(some 33), .mov (.t 6), none, some (.int .i64)⟩,
    ⟨(some 34), .iadr (.sl 6 true) (.t 32) (.t 33), none, none⟩,
    ⟨(some 35), .load 6 true (.t 34), none, none⟩,
    ⟨none, .store 6 true (.t 4) (.t 35), none, none⟩,
    ⟨(some 5), .mov (.c (.fz (.bool true))), none, some .bool⟩])
   (.ret)))
def A_jval_Get : AFunc := ⟨2, [(.cell 4 6 true, .fz), (.tmp 5, .fz)], .seq (.region [⟨(some 2), .box 6 true (.t 0), none, none⟩,
  ⟨(some 4), .alloc 6 true (.ag [.fz (.int .i64 0), .fz (.int .i64 0), .fz (.int .i64 0), .fz (.str ⟨#[]⟩), .nils, .nils]), none, none⟩,
  ⟨(some 5), .mov (.c (.fz (.bool false))), none, some .bool⟩])
 (.seq (.seq (.region [⟨(some 8), .fadr 0 (.t 2), none, none⟩,
    ⟨(some 9), .load 1 false (.t 8), none, some (.int .i64)⟩,
    ⟨(some 10), .binI .neq .i64 (.t 9) (.c (.fz (.int .i64 6))), none, some .bool⟩,
    ⟨(some 11), .mov (.t 10), none, some .bool⟩,
    ⟨(some 12), .fadr 5 (.t 2), (some (11, false)), none⟩,
    ⟨(some 13), .load 1 false (.t 12), (some (11, false)), none⟩,
    ⟨(some 14), .len (.sl 1 false) (.t 13), (some (11, false)), some (.int .i64)⟩,
    ⟨(some 15), .fadr 4 (.t 2), (some (11, false)), none⟩,
    ⟨(some 16), .load 1 false (.t 15), (some (11, false)), none⟩,
    ⟨(some 17), .len (.sl 6 true) (.t 16), (some (11, false)), some (.int .i64)⟩,
    ⟨(some 18), .binI .neq .i64 (.t 14) (.t 17), (some (11, false)), some .bool⟩,
    ⟨(some 19), .pick (.t 11) (.c (.fz (.bool true))) (.t 18), none, some .bool⟩])
   (.cond (.t 19) (.seq (.region [⟨(some 20), .build 6 [.fz (.int .i64 0), .fz (.int .i64 0), .fz (.int .i64 0), .fz (.str ⟨#[]⟩), .nils, .nils] [], none, none⟩,
      ⟨none, .store 6 true (.t 4) (.t 20), none, none⟩,
      ⟨(some 5), .mov (.c (.fz (.bool false))), none, some .bool⟩])
     (.ret))
    (.skip)))
  (.trim [1, 2, 4] A_jval_Get_j1))⟩
def J_jval_Get_1_0 (R : Orc) (k : Nat) (w : Bool) (x1 : ByteArray) (h4096_0 : Int) (h4096_1 : Int) (h4096_2 : Int) (h4096_3 : ByteArray) (h4096_4 : List FV) (h4096_5 : List FV) (h4097_0 : Int) (h4097_1 : Int) (h4097_2 : Int) (h4097_3 : ByteArray) := execL R k w [] A_jval_Get_j1 Ans ⟨[(1, .fz (FV.str x1)), (2, .ptr 4096 0 0), (4, .ptr 4097 0 0)], [(4095, .dead), (4096, .var 6 true (.fz (FV.ag [(FV.int .i64 h4096_0), (FV.int .i64 h4096_1), (FV.int .i64 h4096_2), (FV.str h4096_3), (FV.sl h4096_4), (FV.sl h4096_5)]))), (4097, .var 6 true (.ag [.fz (FV.int .i64 h4097_0), .fz (FV.int .i64 h4097_1), .fz (FV.int .i64 h4097_2), .fz (FV.str h4097_3), .nils, .nils]))]⟩ (kFin R [(.cell 4 6 true, .fz), (.tmp 5, .fz)] [])
theorem E_jval_Get (R : Orc) (k : Nat) (w : Bool) (a0_0 : Int) (a0_1_0 : Int) (a0_1_1 : Int) (a0_2 : ByteArray) (a0_3 : List FV) (a0_4 : List FV) (a1 : ByteArray) : callL R k w A_jval_Get [.fz (FV.ag [(FV.int .i64 a0_0), (FV.int .i64 a0_1_0), (FV.int .i64 a0_1_1), (FV.str a0_2), (FV.sl a0_3), (FV.sl a0_4)]), .fz (FV.str a1)] = ifB (a0_0 != 6)
  (some ([.fz (FV.ag [(FV.int .i64 0), (FV.int .i64 0), (FV.int .i64 0), (FV.str (⟨#[]⟩ : ByteArray)), (FV.sl []), (FV.sl [])]), .fz (FV.bool false)], []))
  (ifB ((List.length a0_4 : Int) != (List.length a0_3 : Int))
   (some ([.fz (FV.ag [(FV.int .i64 0), (FV.int .i64 0), (FV.int .i64 0), (FV.str (⟨#[]⟩ : ByteArray)), (FV.sl []), (FV.sl [])]), .fz (FV.bool false)], []))
   (jump w (J_jval_Get_1_0 R k w a1 a0_0 a0_1_0 a0_1_1 a0_2 a0_3 a0_4 0 0 0 (⟨#[]⟩ : ByteArray)))) := by kernel_rfl
theorem J_jval_Get_1_0_eq (R : Orc) (k : Nat) (w : Bool) (x1 : ByteArray) (h4096_0 : Int) (h4096_1 : Int) (h4096_2 : Int) (h4096_3 : ByteArray) (h4096_4 : List FV) (h4096_5 : List FV) (h4097_0 : Int) (h4097_1 : Int) (h4097_2 : Int) (h4097_3 : ByteArray) : J_jval_Get_1_0 R k w x1 h4096_0 h4096_1 h4096_2 h4096_3 h4096_4 h4096_5 h4097_0 h4097_1 h4097_2 h4097_3 = onR (R N_jval_place [.fz (FV.sl h4096_5), .fz (FV.str x1)]) fun r0 => when (List.isEmpty r0.2 && allF [.fz, .fz] r0.1) (when (FV.isInt .i64 (TV.toF (List.getD r0.1 0 TV.em))) (when (FV.isBool (TV.toF (List.getD r0.1 1 TV.em))) (ifB (!(FV.toBool (TV.toF (List.getD r0.1 1 TV.em))))
  (some ([.fz (FV.ag [(FV.int .i64 0), (FV.int .i64 0), (FV.int .i64 0), (FV.str (⟨#[]⟩ : ByteArray)), (FV.sl []), (FV.sl [])]), .fz (FV.bool false)], []))
  (when ((decide (0 ≤ (FV.toInt (TV.toF (List.getD r0.1 0 TV.em))))) && (decide ((FV.toInt (TV.toF (List.getD r0.1 0 TV.em))) < (List.length h4096_4 : Int)))) (when (FV.fits 6 true (List.getD h4096_4 (Int.toNat (FV.toInt (TV.toF (List.getD r0.1 0 TV.em)))) FV.nilp)) (when (FV.fits 6 true (List.getD h4096_4 (Int.toNat (FV.toInt (TV.toF (List.getD r0.1 0 TV.em)))) FV.nilp)) (some ([.fz (List.getD h4096_4 (Int.toNat (FV.toInt (TV.toF (List.getD r0.1 0 TV.em)))) FV.nilp), .fz (FV.bool true)], [])))))))) := by kernel_rfl
/-! keyhole/keyholeref05.Size -/
def A_ref05_Size_b1 : ACode := .seq (.seq (.region [⟨(some 14), .mov (.t 7), none, some (.int .i64)⟩,
   ⟨(some 15), .fadr 4 (.t 3), none, none⟩,
   ⟨(some 16), .load 1 false (.t 15), none, none⟩,
   ⟨(some 17), .len (.sl 6 true) (.t 16), none, some (.int .i64)⟩,
   ⟨(some 18), .binI .lss .i64 (.t 14) (.t 17), none, some .bool⟩])
  (.cond (.t 18) (.skip)
   (.exit 0)))
 (.seq (.block 1 (.region [⟨(some 21), .fadr 4 (.t 3), none, none⟩,
    ⟨(some 22), .load 1 false (.t 21), none, none⟩,
    ⟨(some 23), .mov (.t 7), none, some (.int .i64)⟩,
    ⟨(some 24), .iadr (.sl 6 true) (.t 22) (.t 23), none, none⟩,
    ⟨(some 25), .load 6 true (.t 24), none, none⟩,
    ⟨(some 26), .mov (.t 1), none, some (.int .i64)⟩,
    ⟨(some 27), .mov (.t 2), none, some (.int .i64)⟩,
    ⟨(some 28), .call N_ref05_Size [((.t 25), .fz), ((.t 26), .fz), ((.t 27), .fz)] [.fz], none, some (.int .i64)⟩,
    ⟨(some 1), .mov (.t 28), none, some (.int .i64)⟩]))
  (.region [⟨(some 19), .mov (.t 7), none, some (.int .i64)⟩,
   ⟨(some 20), .binI .add .i64 (.t 19) (.c (.fz (.int .i64 1))), none, some (.int .i64)⟩,
   ⟨(some 7), .mov (.t 20), none, some (.int .i64)⟩]))
def A_ref05_Size_s1 : ACode := .seq (.region [⟨(some 29), .mov (.t 1), none, some (.int .i64)⟩,
  ⟨(some 6), .mov (.t 29), none, some (.int .i64)⟩])
 (.ret)
def A_ref05_Size : AFunc := ⟨3, [(.tmp 6, .fz)], .seq (.region [⟨(some 3), .box 6 true (.t 0), none, none⟩,
  ⟨(some 6), .mov (.c (.fz (.int .i64 0))), none, some (.int .i64)⟩])
 (.seq (.seq (.region [⟨(some 8), .mov (.t 1), none, some (.int .i64)⟩,
    ⟨(some 9), .mov (.t 2), none, some (.int .i64)⟩,
    ⟨(some 10), .binI .geq .i64 (.t 8) (.t 9), none, some .bool⟩])
   (.cond (.t 10) (.seq (.region [⟨(some 11), .mov (.t 1), none, some (.int .i64)⟩,
      ⟨(some 6), .mov (.t 11), none, some (.int .i64)⟩])
     (.ret))
    (.skip)))
  (.seq (.region [⟨(some 12), .mov (.t 1), none, some (.int .i64)⟩,
    ⟨(some 13), .binI .add .i64 (.t 12) (.c (.fz (.int .i64 1))), none, some (.int .i64)⟩,
    ⟨(some 1), .mov (.t 13), none, some (.int .i64)⟩])
   (.seq (.seq (.region [⟨(some 7), .mov (.c (.fz (.int .i64 0))), none, some (.int .i64)⟩])
     (.block 0 (.loop [1, 2, 3, 7] [1] A_ref05_Size_b1)))
    A_ref05_Size_s1)))⟩
def K_ref05_Size_1 (R : Orc) (k : Nat) (w : Bool) : AExit → St → Option Ans := (kBlk 0 (kSeq R k w [] A_ref05_Size_s1 (kFin R [(.tmp 6, .fz)] [])))
def L_ref05_Size_1_0 (R : Orc) (k : Nat) (w : Bool) (n : Nat) (x1 : Int) (x2 : Int) (x7 : Int) (h4096_0 : Int) (h4096_1 : Int) (h4096_2 : Int) (h4096_3 : ByteArray) (h4096_4 : List FV) (h4096_5 : List FV) := loopL R k w [] [1, 2, 3, 7] [1] A_ref05_Size_b1 n ⟨[(1, .fz (FV.int .i64 x1)), (2, .fz (FV.int .i64 x2)), (3, .ptr 4096 0 0), (7, .fz (FV.int .i64 x7))], [(4095, .dead), (4096, .var 6 true (.fz (FV.ag [(FV.int .i64 h4096_0), (FV.int .i64 h4096_1), (FV.int .i64 h4096_2), (FV.str h4096_3), (FV.sl h4096_4), (FV.sl h4096_5)])))]⟩
def X_ref05_Size_1_0 (x1 : Int) : St := ⟨[(1, .fz (FV.int .i64 x1))], [(4095, .dead)]⟩
theorem E_ref05_Size (R : Orc) (k : Nat) (w : Bool) (a0_0 : Int) (a0_1_0 : Int) (a0_1_1 : Int) (a0_2 : ByteArray) (a0_3 : List FV) (a0_4 : List FV) (a1 : Int) (a2 : Int) : callL R k w A_ref05_Size [.fz (FV.ag [(FV.int .i64 a0_0), (FV.int .i64 a0_1_0), (FV.int .i64 a0_1_1), (FV.str a0_2), (FV.sl a0_3), (FV.sl a0_4)]), .fz (FV.int .i64 a1), .fz (FV.int .i64 a2)] = ifB (decide (a1 ≥ a2))
  (some ([.fz (FV.int .i64 a1)], []))
  (onL (L_ref05_Size_1_0 R k w k (IntKind.wrap .i64 (a1 + 1)) a2 0 a0_0 a0_1_0 a0_1_1 a0_2 a0_3 a0_4) (K_ref05_Size_1 R k w)) := by kernel_rfl
theorem L_ref05_Size_1_0_eq (R : Orc) (k : Nat) (w : Bool) (n : Nat) (x1 : Int) (x2 : Int) (x7 : Int) (h4096_0 : Int) (h4096_1 : Int) (h4096_2 : Int) (h4096_3 : ByteArray) (h4096_4 : List FV) (h4096_5 : List FV) : L_ref05_Size_1_0 R k w (n + 1) x1 x2 x7 h4096_0 h4096_1 h4096_2 h4096_3 h4096_4 h4096_5 = ifB (decide (x7 < (List.length h4096_4 : Int)))
  (when ((decide (0 ≤ x7)) && (decide (x7 < (List.length h4096_4 : Int)))) (when (FV.fits 6 true (List.getD h4096_4 (Int.toNat x7) FV.nilp)) (onR (R N_ref05_Size [.fz (List.getD h4096_4 (Int.toNat x7) FV.nilp), .fz (FV.int .i64 x1), .fz (FV.int .i64 x2)]) fun r0 => when (List.isEmpty r0.2 && allF [.fz] r0.1) (when (FV.isInt .i64 (TV.toF (List.getD r0.1 0 TV.em))) (L_ref05_Size_1_0 R k w n (FV.toInt (TV.toF (List.getD r0.1 0 TV.em))) x2 (IntKind.wrap .i64 (x7 + 1)) h4096_0 h4096_1 h4096_2 h4096_3 h4096_4 h4096_5)))))
  (some ((.exit 0), X_ref05_Size_1_0 x1)) := by kernel_rfl
theorem X_ref05_Size_1_0_eq (R : Orc) (k : Nat) (w : Bool) (x1 : Int) : K_ref05_Size_1 R k w (.exit 0) (X_ref05_Size_1_0 x1) = some ([.fz (FV.int .i64 x1)], []) := by kernel_rfl
/-! keyhole/jval.Int -/
def A_jval_Int : AFunc := ⟨1, [(.cell 2 6 true, .fz)], .seq (.region [⟨(some 2), .alloc 6 true (.ag [.fz (.int .i64 0), .fz (.int .i64 0), .fz (.int .i64 0), .fz (.str ⟨#[]⟩), .nils, .nils]), none, none⟩])
 (.seq (.region [⟨(some 6), .mov (.t 0), none, some (.int .i64)⟩,
   ⟨(some 7), .call N_num_Int [((.t 6), .fz)] [.fz, .fz], none, none⟩,
   ⟨(some 5), .mov (.t 7), none, none⟩,
   ⟨(some 8), .extract (.t 5) 0, none, none⟩,
   ⟨(some 9), .extract (.t 5) 1, none, some (.int .i64)⟩,
   ⟨(some 3), .alloc 2 true (.fz (.ag [.int .i64 0, .int .i64 0])), none, none⟩,
   ⟨none, .store 2 true (.t 3) (.t 8), none, none⟩,
   ⟨(some 4), .mov (.t 9), none, some (.int .i64)⟩])
  (.seq (.seq (.region [⟨(some 10), .mov (.t 4), none, some (.int .i64)⟩,
     ⟨(some 11), .binI .neq .i64 (.t 10) (.c (.fz (.int .i64 0))), none, some .bool⟩])
    (.cond (.t 11) (.seq (.region [⟨(some 12), .call N_jval_Wrong [((.c (.fz (.str ⟨#[110, 117, 109, 98, 101, 114]⟩))), .fz)] [.fz], none, none⟩,
       ⟨none, .store 6 true (.t 2) (.t 12), none, none⟩])
      (.ret))
     (.skip)))
   (.seq (.region [⟨(some 13), .load 2 true (.t 3), none, none⟩,
     ⟨(some 14), .build 6 [.fz (.int .i64 0), .fz (.int .i64 0), .fz (.int .i64 0), .fz (.str ⟨#[]⟩), .nils, .nils] [(0, 1, false, (.c (.fz (.int .i64 3)))), (1, 2, true, (.t 13))], none, none⟩,
     ⟨none, .store 6 true (.t 2) (.t 14), none, none⟩])
    (.ret))))⟩
theorem E_jval_Int (R : Orc) (k : Nat) (w : Bool) (a0 : Int) : callL R k w A_jval_Int [.fz (FV.int .i64 a0)] = onR (R N_num_Int [.fz (FV.int .i64 a0)]) fun r0 => when (List.isEmpty r0.2 && allF [.fz, .fz] r0.1) (when (FV.isInt .i64 (TV.toF (List.getD r0.1 1 TV.em))) (when (FV.fits 2 true (TV.toF (List.getD r0.1 0 TV.em))) (ifB ((FV.toInt (TV.toF (List.getD r0.1 1 TV.em))) != 0)
  (onR (R N_jval_Wrong [.fz (FV.str (⟨#[110, 117, 109, 98, 101, 114]⟩ : ByteArray))]) fun r1 => when (List.isEmpty r1.2 && allF [.fz] r1.1) (when (FV.fits 6 true (TV.toF (List.getD r1.1 0 TV.em))) (some ([.fz (TV.toF (List.getD r1.1 0 TV.em))], []))))
  (when (FV.isAg 2 (TV.toF (List.getD r0.1 0 TV.em))) (some ([.fz (FV.ag [(FV.int .i64 3), (FV.cell (TV.toF (List.getD r0.1 0 TV.em)) 0), (FV.cell (TV.toF (List.getD r0.1 0 TV.em)) 1), (FV.str (⟨#[]⟩ : ByteArray)), (FV.sl []), (FV.sl [])])], [])))))) := by kernel_rfl
/-! keyhole/jval.Text -/
def A_jval_Text : AFunc := ⟨1, [(.cell 2 6 true, .fz)], .seq (.region [⟨(some 2), .alloc 6 true (.ag [.fz (.int .i64 0), .fz (.int .i64 0), .fz (.int .i64 0), .fz (.str ⟨#[]⟩), .nils, .nils]), none, none⟩])
 (.seq (.region [⟨(some 3), .mov (.t 0), none, some .str⟩,
   ⟨(some 4), .build 6 [.fz (.int .i64 0), .fz (.int .i64 0), .fz (.int .i64 0), .fz (.str ⟨#[]⟩), .nils, .nils] [(0, 1, false, (.c (.fz (.int .i64 4)))), (3, 1, false, (.t 3))], none, none⟩,
   ⟨none, .store 6 true (.t 2) (.t 4), none, none⟩])
  (.ret))⟩
theorem E_jval_Text (R : Orc) (k : Nat) (w : Bool) (a0 : ByteArray) : callL R k w A_jval_Text [.fz (FV.str a0)] = some ([.fz (FV.ag [(FV.int .i64 4), (FV.int .i64 0), (FV.int .i64 0), (FV.str a0), (FV.sl []), (FV.sl [])])], []) := by kernel_rfl
/-! keyhole/jval.Wrong -/
def A_jval_Wrong : AFunc := ⟨1, [(.cell 2 6 true, .fz)], .seq (.region [⟨(some 2), .alloc 6 true (.ag [.fz (.int .i64 0), .fz (.int .i64 0), .fz (.int .i64 0), .fz (.str ⟨#[]⟩), .nils, .nils]), none, none⟩])
 (.seq (.region [⟨(some 3), .mov (.t 0), none, some .str⟩,
   ⟨(some 4), .build 6 [.fz (.int .i64 0), .fz (.int .i64 0), .fz (.int .i64 0), .fz (.str ⟨#[]⟩), .nils, .nils] [(0, 1, false, (.c (.fz (.int .i64 7)))), (3, 1, false, (.t 3))], none, none⟩,
   ⟨none, .store 6 true (.t 2) (.t 4), none, none⟩])
  (.ret))⟩
theorem E_jval_Wrong (R : Orc) (k : Nat) (w : Bool) (a0 : ByteArray) : callL R k w A_jval_Wrong [.fz (FV.str a0)] = some ([.fz (FV.ag [(FV.int .i64 7), (FV.int .i64 0), (FV.int .i64 0), (FV.str a0), (FV.sl []), (FV.sl [])])], []) := by kernel_rfl
/-! keyhole/jval.List -/
def A_jval_List : AFunc := ⟨1, [(.cell 2 6 true, .fz)], .seq (.region [⟨(some 2), .alloc 6 true (.ag [.fz (.int .i64 0), .fz (.int .i64 0), .fz (.int .i64 0), .fz (.str ⟨#[]⟩), .nils, .nils]), none, none⟩])
 (.seq (.region [⟨(some 3), .buildSl 6 true 0 (.ag [.int .i64 0, .int .i64 0, .int .i64 0, .str ⟨#[]⟩, .sl [], .sl []]) [], none, none⟩,
   ⟨(some 4), .mov (.t 0), none, none⟩,
   ⟨(some 5), .append 6 true 88 false (.t 3) (.t 4), none, none⟩,
   ⟨(some 6), .build 6 [.fz (.int .i64 0), .fz (.int .i64 0), .fz (.int .i64 0), .fz (.str ⟨#[]⟩), .nils, .nils] [(0, 1, false, (.c (.fz (.int .i64 5)))), (4, 1, false, (.t 5))], none, none⟩,
   ⟨none, .store 6 true (.t 2) (.t 6), none, none⟩])
  (.ret))⟩
theorem E_jval_List (R : Orc) (k : Nat) (w : Bool) (a0 : List FV) : callL R k w A_jval_List [.fz (FV.sl a0)] = when (List.all a0 (FV.fits 6 true)) (when (decide (((0 : Nat) + List.length a0) * 88 ≤ roomy) && decide ((0 : Nat) + List.length a0 ≤ roomy)) (some ([.fz (FV.ag [(FV.int .i64 5), (FV.int .i64 0), (FV.int .i64 0), (FV.str (⟨#[]⟩ : ByteArray)), (FV.sl a0), (FV.sl [])])], []))) := by kernel_rfl
/-! keyhole/jval.Name -/
def A_jval_Name_j1 : ACode := .cond (.t 6) (.seq (.region [⟨(some 2), .mov (.c (.fz (.str ⟨#[98, 111, 111, 108, 101, 97, 110]⟩))), none, some .str⟩])
  (.ret))
 (.seq (.region [⟨(some 10), .binI .eql .i64 (.t 3) (.c (.fz (.int .i64 3))), none, some .bool⟩,
   ⟨(some 9), .mov (.t 10), none, some .bool⟩])
  (.cond (.t 9) (.seq (.region [⟨(some 2), .mov (.c (.fz (.str ⟨#[110, 117, 109, 98, 101, 114]⟩))), none, some .str⟩])
    (.ret))
   (.seq (.region [⟨(some 12), .binI .eql .i64 (.t 3) (.c (.fz (.int .i64 4))), none, some .bool⟩,
     ⟨(some 11), .mov (.t 12), none, some .bool⟩])
    (.cond (.t 11) (.seq (.region [⟨(some 2), .mov (.c (.fz (.str ⟨#[115, 116, 114, 105, 110, 103]⟩))), none, some .str⟩])
      (.ret))
     (.seq (.region [⟨(some 14), .binI .eql .i64 (.t 3) (.c (.fz (.int .i64 5))), none, some .bool⟩,
       ⟨(some 13), .mov (.t 14), none, some .bool⟩])
      (.cond (.t 13) (.seq (.region [⟨(some 2), .mov (.c (.fz (.str ⟨#[97, 114, 114, 97, 121]⟩))), none, some .str⟩])
        (.ret))
       (.seq (.region [⟨(some 16), .binI .eql .i64 (.t 3) (.c (.fz (.int .i64 6))), none, some .bool⟩,
         ⟨(some 15), .mov (.t 16), none, some .bool⟩])
        (.cond (.t 15) (.seq (.region [⟨(some 2), .mov (.c (.fz (.str ⟨#[111, 98, 106, 101, 99, 116]⟩))), none, some .str⟩])
          (.ret))
         (.seq (.region [⟨(some 18), .binI .eql .i64 (.t 3) (.c (.fz (.int .i64 7))), none, some .bool⟩,
           ⟨(some 17), .mov (.t 18), none, some .bool⟩])
          (.cond (.t 17) (.seq (.region [⟨(some 2), .mov (.c (.fz (.str ⟨#[101, 114, 114, 111, 114]⟩))), none, some .str⟩])
            (.ret))
           (.skip)))))))))))
def A_jval_Name_s2 : ACode := .seq (.region [⟨(some 2), .mov (.c (.fz (.str ⟨#[]⟩))), none, some .str⟩])
 (.ret)
def A_jval_Name : AFunc := ⟨1, [(.tmp 2, .fz)], .seq (.region [⟨(some 2), .mov (.c (.fz (.str ⟨#[]⟩))), none, some .str⟩])
 (.seq (.seq (.region [⟨(some 3), .mov (.t 0), none, some (.int .i64)⟩])
   (.block 0 (.seq (.region [⟨(some 5), .binI .eql .i64 (.t 3) (.c (.fz (.int .i64 0))), none, some .bool⟩,
      ⟨(some 4), .mov (.t 5), none, some .bool⟩])
     (.cond (.t 4) (.seq (.region [⟨(some 2), .mov (.c (.fz (.str ⟨#[110, 117, 108, 108]⟩))), none, some .str⟩])
       (.ret))
      (.seq (.seq (.region [⟨(some 7), .binI .eql .i64 (.t 3) (.c (.fz (.int .i64 1))), none, some .bool⟩,
         ⟨(some 6), .mov (.t 7), none, some .bool⟩])
        (.cond (.t 6) (.skip)
         (.region [⟨(some 8), .binI .eql .i64 (.t 3) (.c (.fz (.int .i64 2))), none, some .bool⟩,
          ⟨(some 6), .mov (.t 8), none, some .bool⟩])))
       (.trim [3, 6] A_jval_Name_j1))))))
  A_jval_Name_s2)⟩
def J_jval_Name_1_0 (R : Orc) (k : Nat) (w : Bool) (x3 : Int) (x6 : Bool) := execL R k w [] A_jval_Name_j1 Ans ⟨[(3, .fz (FV.int .i64 x3)), (6, .fz (FV.bool x6))], [(4095, .dead)]⟩ (kBlk 0 (kSeq R k w [] A_jval_Name_s2 (kFin R [(.tmp 2, .fz)] [])))
theorem E_jval_Name (R : Orc) (k : Nat) (w : Bool) (a0 : Int) : callL R k w A_jval_Name [.fz (FV.int .i64 a0)] = ifB (a0 == 0)
  (some ([.fz (FV.str (⟨#[110, 117, 108, 108]⟩ : ByteArray))], []))
  (ifB (a0 == 1)
   (jump w (J_jval_Name_1_0 R k w a0 true))
   (jump w (J_jval_Name_1_0 R k w a0 (a0 == 2)))) := by kernel_rfl
theorem J_jval_Name_1_0_eq (R : Orc) (k : Nat) (w : Bool) (x3 : Int) (x6 : Bool) : J_jval_Name_1_0 R k w x3 x6 = ifB x6
  (some ([.fz (FV.str (⟨#[98, 111, 111, 108, 101, 97, 110]⟩ : ByteArray))], []))
  (ifB (x3 == 3)
   (some ([.fz (FV.str (⟨#[110, 117, 109, 98, 101, 114]⟩ : ByteArray))], []))
   (ifB (x3 == 4)
    (some ([.fz (FV.str (⟨#[115, 116, 114, 105, 110, 103]⟩ : ByteArray))], []))
    (ifB (x3 == 5)
     (some ([.fz (FV.str (⟨#[97, 114, 114, 97, 121]⟩ : ByteArray))], []))
     (ifB (x3 == 6)
      (some ([.fz (FV.str (⟨#[111, 98, 106, 101, 99, 116]⟩ : ByteArray))], []))
      (ifB (x3 == 7)
       (some ([.fz (FV.str (⟨#[101, 114, 114, 111, 114]⟩ : ByteArray))], []))
       (some ([.fz (FV.str (⟨#[]⟩ : ByteArray))], []))))))) := by kernel_rfl
/-! keyhole/jval.Truth -/
def A_jval_Truth : AFunc := ⟨1, [(.cell 2 6 true, .fz)], .seq (.region [⟨(some 2), .alloc 6 true (.ag [.fz (.int .i64 0), .fz (.int .i64 0), .fz (.int .i64 0), .fz (.str ⟨#[]⟩), .nils, .nils]), none, none⟩])
 (.seq (.seq (.region [⟨(some 3), .mov (.t 0), none, some .bool⟩])
   (.cond (.t 3) (.seq (.region [⟨(some 4), .build 6 [.fz (.int .i64 0), .fz (.int .i64 0), .fz (.int .i64 0), .fz (.str ⟨#[]⟩), .nils, .nils] [(0, 1, false, (.c (.fz (.int .i64 2))))], none, none⟩,
      ⟨none, .store 6 true (.t 2) (.t 4), none, none⟩])
     (.ret))
    (.skip)))
  (.seq (.region [⟨(some 5), .build 6 [.fz (.int .i64 0), .fz (.int .i64 0), .fz (.int .i64 0), .fz (.str ⟨#[]⟩), .nils, .nils] [(0, 1, false, (.c (.fz (.int .i64 1))))], none, none⟩,
    ⟨none, .store 6 true (.t 2) (.t 5), none, none⟩])
   (.ret)))⟩
theorem E_jval_Truth (R : Orc) (k : Nat) (w : Bool) (a0 : Bool) : callL R k w A_jval_Truth [.fz (FV.bool a0)] = ifB a0
  (some ([.fz (FV.ag [(FV.int .i64 2), (FV.int .i64 0), (FV.int .i64 0), (FV.str (⟨#[]⟩ : ByteArray)), (FV.sl []), (FV.sl [])])], []))
  (some ([.fz (FV.ag [(FV.int .i64 1), (FV.int .i64 0), (FV.int .i64 0), (FV.str (⟨#[]⟩ : ByteArray)), (FV.sl []), (FV.sl [])])], [])) := by kernel_rfl
/-! keyhole/jval.Is -/
def A_jval_Is : AFunc := ⟨1, [(.tmp 2, .fz)], .seq (.region [⟨(some 1), .box 6 true (.t 0), none, none⟩,
  ⟨(some 2), .mov (.c (.fz (.bool false))), none, some .bool⟩])
 (.seq (.region [⟨(some 3), .load 6 true (.t 1), none, none⟩,
   ⟨(some 4), .call N_jval_is [((.t 3), .fz), ((.c (.fz (.int .i64 0))), .fz)] [.fz], none, some .bool⟩,
   ⟨(some 2), .mov (.t 4), none, some .bool⟩])
  (.ret))⟩
theorem E_jval_Is (R : Orc) (k : Nat) (w : Bool) (a0_0 : Int) (a0_1_0 : Int) (a0_1_1 : Int) (a0_2 : ByteArray) (a0_3 : List FV) (a0_4 : List FV) : callL R k w A_jval_Is [.fz (FV.ag [(FV.int .i64 a0_0), (FV.int .i64 a0_1_0), (FV.int .i64 a0_1_1), (FV.str a0_2), (FV.sl a0_3), (FV.sl a0_4)])] = onR (R N_jval_is [.fz (FV.ag [(FV.int .i64 a0_0), (FV.int .i64 a0_1_0), (FV.int .i64 a0_1_1), (FV.str a0_2), (FV.sl a0_3), (FV.sl a0_4)]), .fz (FV.int .i64 0)]) fun r0 => when (List.isEmpty r0.2 && allF [.fz] r0.1) (when (FV.isBool (TV.toF (List.getD r0.1 0 TV.em))) (some ([.fz (FV.bool (FV.toBool (TV.toF (List.getD r0.1 0 TV.em))))], []))) := by kernel_rfl
/-! keyhole/jval.Same -/
def A_jval_Same_b1 : ACode := .seq (.region [⟨(some 48), .binI .lss .i64 (.t 47) (.t 46), none, some .bool⟩])
 (.seq (.cond (.t 48) (.skip)
   (.exit 0))
  (.seq (.block 1 (.seq (.region [⟨(some 49), .mov (.t 47), none, some (.int .i64)⟩,
      ⟨(some 5), .mov (.t 49), none, some (.int .i64)⟩])
     (.seq (.draws [⟨⟨(some 50), .fadr 5 (.t 2), none, none⟩, []⟩,
       ⟨⟨(some 51), .load 1 false (.t 50), none, none⟩, [0]⟩,
       ⟨⟨(some 52), .mov (.t 5), none, some (.int .i64)⟩, []⟩,
       ⟨⟨(some 53), .iadr (.sl 1 false) (.t 51) (.t 52), none, none⟩, [1, 2]⟩,
       ⟨⟨(some 54), .load 1 false (.t 53), none, some .str⟩, [3]⟩,
       ⟨⟨(some 55), .fadr 5 (.t 3), none, none⟩, []⟩,
       ⟨⟨(some 56), .load 1 false (.t 55), none, none⟩, [5]⟩,
       ⟨⟨(some 57), .mov (.t 5), none, some (.int .i64)⟩, []⟩,
       ⟨⟨(some 58), .iadr (.sl 1 false) (.t 56) (.t 57), none, none⟩, [6, 7]⟩,
       ⟨⟨(some 59), .load 1 false (.t 58), none, some .str⟩, [8]⟩,
       ⟨⟨(some 60), .binS .neq (.t 54) (.t 59), none, some .bool⟩, [4, 9]⟩])
      (.cond (.t 60) (.seq (.region [⟨(some 4), .mov (.c (.fz (.bool false))), none, some .bool⟩])
        (.ret))
       (.skip)))))
   (.region [⟨(some 61), .binI .add .i64 (.t 47) (.c (.fz (.int .i64 1))), none, some (.int .i64)⟩,
    ⟨(some 47), .mov (.t 61), none, some (.int .i64)⟩])))
def A_jval_Same_b2 : ACode := .seq (.region [⟨(some 66), .binI .lss .i64 (.t 65) (.t 64), none, some .bool⟩])
 (.seq (.cond (.t 66) (.skip)
   (.exit 2))
  (.seq (.block 3 (.seq (.region [⟨(some 67), .mov (.t 65), none, some (.int .i64)⟩,
      ⟨(some 6), .mov (.t 67), none, some (.int .i64)⟩])
     (.seq (.draws [⟨⟨(some 68), .fadr 4 (.t 2), none, none⟩, []⟩,
       ⟨⟨(some 69), .load 1 false (.t 68), none, none⟩, [0]⟩,
       ⟨⟨(some 70), .mov (.t 6), none, some (.int .i64)⟩, []⟩,
       ⟨⟨(some 71), .iadr (.sl 6 true) (.t 69) (.t 70), none, none⟩, [1, 2]⟩,
       ⟨⟨(some 72), .load 6 true (.t 71), none, none⟩, [3]⟩,
       ⟨⟨(some 73), .fadr 4 (.t 3), none, none⟩, []⟩,
       ⟨⟨(some 74), .load 1 false (.t 73), none, none⟩, [5]⟩,
       ⟨⟨(some 75), .mov (.t 6), none, some (.int .i64)⟩, []⟩,
       ⟨⟨(some 76), .iadr (.sl 6 true) (.t 74) (.t 75), none, none⟩, [6, 7]⟩,
       ⟨⟨(some 77), .load 6 true (.t 76), none, none⟩, [8]⟩,
       ⟨⟨(some 78), .call N_jval_Same [((.t 72), .fz), ((.t 77), .fz)] [.fz], none, some .bool⟩, [4, 9]⟩,
       ⟨⟨(some 79), .notB (.t 78), none, some .bool⟩, [10]⟩])
      (.cond (.t 79) (.seq (.region [⟨(some 4), .mov (.c (.fz (.bool false))), none, some .bool⟩])
        (.ret))
       (.skip)))))
   (.region [⟨(some 80), .binI .add .i64 (.t 65) (.c (.fz (.int .i64 1))), none, some (.int .i64)⟩,
    ⟨(some 65), .mov (.t 80), none, some (.int .i64)⟩])))
def A_jval_Same_s1 : ACode := .seq (.region [⟨(some 4), .mov (.c (.fz (.bool true))), none, some .bool⟩])
 (.ret)
def A_jval_Same_s2 : ACode := .seq (.seq (.region [⟨(some 62), .fadr 4 (.t 2), none, none⟩,
   ⟨(some 63), .load 1 false (.t 62), none, none⟩,
   ⟨(some 64), .len (.sl 6 true) (.t 63), none, some (.int .i64)⟩,
   ⟨(some 65), .mov (.c (.fz (.int .i64 0))), none, some (.int .i64)⟩])
  (.block 2 (.loop [2, 3, 64, 65] [4] A_jval_Same_b2)))
 A_jval_Same_s1
def A_jval_Same_j3 : ACode := .seq (.seq (.region [⟨(some 44), .fadr 5 (.t 2), none, none⟩,
   ⟨(some 45), .load 1 false (.t 44), none, none⟩,
   ⟨(some 46), .len (.sl 1 false) (.t 45), none, some (.int .i64)⟩,
   ⟨(some 47), .mov (.c (.fz (.int .i64 0))), none, some (.int .i64)⟩])
  (.block 0 (.loop [2, 3, 46, 47] [2, 3, 4] A_jval_Same_b1)))
 A_jval_Same_s2
def A_jval_Same : AFunc := ⟨2, [(.tmp 4, .fz)], .seq (.region [⟨(some 2), .box 6 true (.t 0), none, none⟩,
  ⟨(some 3), .box 6 true (.t 1), none, none⟩,
  ⟨(some 4), .mov (.c (.fz (.bool false))), none, some .bool⟩])
 (.seq (.seq (.region [⟨(some 7), .fadr 0 (.t 2), none, none⟩,
    ⟨(some 8), .load 1 false (.t 7), none, some (.int .i64)⟩,
    ⟨(some 9), .fadr 0 (.t 3), none, none⟩,
    ⟨(some 10), .load 1 false (.t 9), none, some (.int .i64)⟩,
    ⟨(some 11), .binI .neq .i64 (.t 8) (.t 10), none, some .bool⟩,
    ⟨(some 12), .mov (.t 11), none, some .bool⟩,
    ⟨(some 13), .fadr 1 (.t 2), (some (12, false)), none⟩,
    ⟨(some 14), .load 2 true (.t 13), (some (12, false)), none⟩,
    ⟨(some 15), .fadr 1 (.t 3), (some (12, false)), none⟩,
    ⟨(some 16), .load 2 true (.t 15), (some (12, false)), none⟩,
    ⟨(some 17), .eqA true [.int .i64, .int .i64] (.t 14) (.t 16), (some (12, false)), some .bool⟩,
    ⟨(some 18), .pick (.t 12) (.c (.fz (.bool true))) (.t 17), none, some .bool⟩,
    ⟨(some 19), .mov (.t 18), none, some .bool⟩,
    ⟨(some 20), .fadr 3 (.t 2), (some (19, false)), none⟩,
    ⟨(some 21), .load 1 false (.t 20), (some (19, false)), some .str⟩,
    ⟨(some 22), .fadr 3 (.t 3), (some (19, false)), none⟩,
    ⟨(some 23), .load 1 false (.t 22), (some (19, false)), some .str⟩,
    ⟨(some 24), .binS .neq (.t 21) (.t 23), (some (19, false)), some .bool⟩,
    ⟨(some 25), .pick (.t 19) (.c (.fz (.bool true))) (.t 24), none, some .bool⟩,
    ⟨(some 26), .mov (.t 25), none, some .bool⟩,
    ⟨(some 27), .fadr 4 (.t 2), (some (26, false)), none⟩,
    ⟨(some 28), .load 1 false (.t 27), (some (26, false)), none⟩,
    ⟨(some 29), .len (.sl 6 true) (.t 28), (some (26, false)), some (.int .i64)⟩,
    ⟨(some 30), .fadr 4 (.t 3), (some (26, false)), none⟩,
    ⟨(some 31), .load 1 false (.t 30), (some (26, false)), none⟩,
    ⟨(some 32), .len (.sl 6 true) (.t 31), (some (26, false)), some (.int .i64)⟩,
    ⟨(some 33), .binI .neq .i64 (.t 29) (.t 32), (some (26, false)), some .bool⟩,
    ⟨(some 34), .pick (.t 26) (.c (.fz (.bool true))) (.t 33), none, some .bool⟩,
    ⟨(some 35), .mov (.t 34), none, some .bool⟩,
    ⟨(some 36), .fadr 5 (.t 2), (some (35, false)), none⟩,
    ⟨(some 37), .load 1 false (.t 36), (some (35, false)), none⟩,
    ⟨(some 38), .len (.sl 1 false) (.t 37), (some (35, false)), some (.int .i64)⟩,
    ⟨(some 39), .fadr 5 (.t 3), (some (35, false)), none⟩,
    ⟨(some 40), .load 1 false (.t 39), (some (35, false)), none⟩,
    ⟨(some 41), .len (.sl 1 false) (.t 40), (some (35, false)), some (.int .i64)⟩,
    ⟨(some 42), .binI .neq .i64 (.t 38) (.t 41), (some (35, false)), some .bool⟩,
    ⟨(some 43), .pick (.t 35) (.c (.fz (.bool true))) (.t 42), none, some .bool⟩])
   (.cond (.t 43) (.seq (.region [⟨(some 4), .mov (.c (.fz (.bool false))), none, some .bool⟩])
     (.ret))
    (.skip)))
  (.trim [2, 3] A_jval_Same_j3))⟩
def J_jval_Same_3_0 (R : Orc) (k : Nat) (w : Bool) (h4096_0 : Int) (h4096_1 : Int) (h4096_2 : Int) (h4096_3 : ByteArray) (h4096_4 : List FV) (h4096_5 : List FV) (h4097_0 : Int) (h4097_1 : Int) (h4097_2 : Int) (h4097_3 : ByteArray) (h4097_4 : List FV) (h4097_5 : List FV) := execL R k w [] A_jval_Same_j3 Ans ⟨[(2, .ptr 4096 0 0), (3, .ptr 4097 0 0)], [(4095, .dead), (4096, .var 6 true (.fz (FV.ag [(FV.int .i64 h4096_0), (FV.int .i64 h4096_1), (FV.int .i64 h4096_2), (FV.str h4096_3), (FV.sl h4096_4), (FV.sl h4096_5)]))), (4097, .var 6 true (.fz (FV.ag [(FV.int .i64 h4097_0), (FV.int .i64 h4097_1), (FV.int .i64 h4097_2), (FV.str h4097_3), (FV.sl h4097_4), (FV.sl h4097_5)])))]⟩ (kFin R [(.tmp 4, .fz)] [])
def K_jval_Same_1 (R : Orc) (k : Nat) (w : Bool) : AExit → St → Option Ans := (kBlk 0 (kSeq R k w [] A_jval_Same_s2 (kFin R [(.tmp 4, .fz)] [])))
def L_jval_Same_1_0 (R : Orc) (k : Nat) (w : Bool) (n : Nat) (x46 : Int) (x47 : Int) (h4096_0 : Int) (h4096_1 : Int) (h4096_2 : Int) (h4096_3 : ByteArray) (h4096_4 : List FV) (h4096_5 : List FV) (h4097_0 : Int) (h4097_1 : Int) (h4097_2 : Int) (h4097_3 : ByteArray) (h4097_4 : List FV) (h4097_5 : List FV) := loopL R k w [] [2, 3, 46, 47] [2, 3, 4] A_jval_Same_b1 n ⟨[(2, .ptr 4096 0 0), (3, .ptr 4097 0 0), (46, .fz (FV.int .i64 x46)), (47, .fz (FV.int .i64 x47))], [(4095, .dead), (4096, .var 6 true (.fz (FV.ag [(FV.int .i64 h4096_0), (FV.int .i64 h4096_1), (FV.int .i64 h4096_2), (FV.str h4096_3), (FV.sl h4096_4), (FV.sl h4096_5)]))), (4097, .var 6 true (.fz (FV.ag [(FV.int .i64 h4097_0), (FV.int .i64 h4097_1), (FV.int .i64 h4097_2), (FV.str h4097_3), (FV.sl h4097_4), (FV.sl h4097_5)])))]⟩
def X_jval_Same_1_0 (x4 : Bool) (h4096_0 : Int) (h4096_1 : Int) (h4096_2 : Int) (h4096_3 : ByteArray) (h4096_4 : List FV) (h4096_5 : List FV) (h4097_0 : Int) (h4097_1 : Int) (h4097_2 : Int) (h4097_3 : ByteArray) (h4097_4 : List FV) (h4097_5 : List FV) : St := ⟨[(2, .ptr 4096 0 0), (3, .ptr 4097 0 0), (4, .fz (FV.bool x4))], [(4095, .dead), (4096, .var 6 true (.fz (FV.ag [(FV.int .i64 h4096_0), (FV.int .i64 h4096_1), (FV.int .i64 h4096_2), (FV.str h4096_3), (FV.sl h4096_4), (FV.sl h4096_5)]))), (4097, .var 6 true (.fz (FV.ag [(FV.int .i64 h4097_0), (FV.int .i64 h4097_1), (FV.int .i64 h4097_2), (FV.str h4097_3), (FV.sl h4097_4), (FV.sl h4097_5)])))]⟩
def X_jval_Same_1_1 (h4096_0 : Int) (h4096_1 : Int) (h4096_2 : Int) (h4096_3 : ByteArray) (h4096_4 : List FV) (h4096_5 : List FV) (h4097_0 : Int) (h4097_1 : Int) (h4097_2 : Int) (h4097_3 : ByteArray) (h4097_4 : List FV) (h4097_5 : List FV) : St := ⟨[(2, .ptr 4096 0 0), (3, .ptr 4097 0 0)], [(4095, .dead), (4096, .var 6 true (.fz (FV.ag [(FV.int .i64 h4096_0), (FV.int .i64 h4096_1), (FV.int .i64 h4096_2), (FV.str h4096_3), (FV.sl h4096_4), (FV.sl h4096_5)]))), (4097, .var 6 true (.fz (FV.ag [(FV.int .i64 h4097_0), (FV.int .i64 h4097_1), (FV.int .i64 h4097_2), (FV.str h4097_3), (FV.sl h4097_4), (FV.sl h4097_5)])))]⟩
def K_jval_Same_2 (R : Orc) (k : Nat) (w : Bool) : AExit → St → Option Ans := (kBlk 2 (kSeq R k w [] A_jval_Same_s1 (kFin R [(.tmp 4, .fz)] [])))
def L_jval_Same_2_0 (R : Orc) (k : Nat) (w : Bool) (n : Nat) (x64 : Int) (x65 : Int) (h4096_0 : Int) (h4096_1 : Int) (h4096_2 : Int) (h4096_3 : ByteArray) (h4096_4 : List FV) (h4096_5 : List FV) (h4097_0 : Int) (h4097_1 : Int) (h4097_2 : Int) (h4097_3 : ByteArray) (h4097_4 : List FV) (h4097_5 : List FV) := loopL R k w [] [2, 3, 64, 65] [4] A_jval_Same_b2 n ⟨[(2, .ptr 4096 0 0), (3, .ptr 4097 0 0), (64, .fz (FV.int .i64 x64)), (65, .fz (FV.int .i64 x65))], [(4095, .dead), (4096, .var 6 true (.fz (FV.ag [(FV.int .i64 h4096_0), (FV.int .i64 h4096_1), (FV.int .i64 h4096_2), (FV.str h4096_3), (FV.sl h4096_4), (FV.sl h4096_5)]))), (4097, .var 6 true (.fz (FV.ag [(FV.int .i64 h4097_0), (FV.int .i64 h4097_1), (FV.int .i64 h4097_2), (FV.str h4097_3), (FV.sl h4097_4), (FV.sl h4097_5)])))]⟩
def X_jval_Same_2_0 (x4 : Bool) : St := ⟨[(4, .fz (FV.bool x4))], [(4095, .dead)]⟩
def X_jval_Same_2_1 : St := ⟨[], [(4095, .dead)]⟩
theorem E_jval_Same (R : Orc) (k : Nat) (w : Bool) (a0_0 : Int) (a0_1_0 : Int) (a0_1_1 : Int) (a0_2 : ByteArray) (a0_3 : List FV) (a0_4 : List FV) (a1_0 : Int) (a1_1_0 : Int) (a1_1_1 : Int) (a1_2 : ByteArray) (a1_3 : List FV) (a1_4 : List FV) : callL R k w A_jval_Same [.fz (FV.ag [(FV.int .i64 a0_0), (FV.int .i64 a0_1_0), (FV.int .i64 a0_1_1), (FV.str a0_2), (FV.sl a0_3), (FV.sl a0_4)]), .fz (FV.ag [(FV.int .i64 a1_0), (FV.int .i64 a1_1_0), (FV.int .i64 a1_1_1), (FV.str a1_2), (FV.sl a1_3), (FV.sl a1_4)])] = ifB (a0_0 != a1_0)
  (some ([.fz (FV.bool false)], []))
  (ifB (!((a0_1_0 == a1_1_0) && ((a0_1_1 == a1_1_1) && true)))
   (some ([.fz (FV.bool false)], []))
   (ifB (!(ByteArray.toList a0_2 == ByteArray.toList a1_2))
    (some ([.fz (FV.bool false)], []))
    (ifB ((List.length a0_3 : Int) != (List.length a1_3 : Int))
     (some ([.fz (FV.bool false)], []))
     (ifB ((List.length a0_4 : Int) != (List.length a1_4 : Int))
      (some ([.fz (FV.bool false)], []))
      (jump w (J_jval_Same_3_0 R k w a0_0 a0_1_0 a0_1_1 a0_2 a0_3 a0_4 a1_0 a1_1_0 a1_1_1 a1_2 a1_3 a1_4)))))) := by kernel_rfl
theorem J_jval_Same_3_0_eq (R : Orc) (k : Nat) (w : Bool) (h4096_0 : Int) (h4096_1 : Int) (h4096_2 : Int) (h4096_3 : ByteArray) (h4096_4 : List FV) (h4096_5 : List FV) (h4097_0 : Int) (h4097_1 : Int) (h4097_2 : Int) (h4097_3 : ByteArray) (h4097_4 : List FV) (h4097_5 : List FV) : J_jval_Same_3_0 R k w h4096_0 h4096_1 h4096_2 h4096_3 h4096_4 h4096_5 h4097_0 h4097_1 h4097_2 h4097_3 h4097_4 h4097_5 = onL (L_jval_Same_1_0 R k w k (List.length h4096_5 : Int) 0 h4096_0 h4096_1 h4096_2 h4096_3 h4096_4 h4096_5 h4097_0 h4097_1 h4097_2 h4097_3 h4097_4 h4097_5) (K_jval_Same_1 R k w) := by kernel_rfl
theorem L_jval_Same_1_0_eq (R : Orc) (k : Nat) (w : Bool) (n : Nat) (x46 : Int) (x47 : Int) (h4096_0 : Int) (h4096_1 : Int) (h4096_2 : Int) (h4096_3 : ByteArray) (h4096_4 : List FV) (h4096_5 : List FV) (h4097_0 : Int) (h4097_1 : Int) (h4097_2 : Int) (h4097_3 : ByteArray) (h4097_4 : List FV) (h4097_5 : List FV) : L_jval_Same_1_0 R k w (n + 1) x46 x47 h4096_0 h4096_1 h4096_2 h4096_3 h4096_4 h4096_5 h4097_0 h4097_1 h4097_2 h4097_3 h4097_4 h4097_5 = ifB (decide (x47 < x46))
  (when ((decide (0 ≤ x47)) && (decide (x47 < (List.length h4096_5 : Int)))) (when (FV.fits 1 false (List.getD h4096_5 (Int.toNat x47) FV.nilp)) (when (FV.isStr (List.getD h4096_5 (Int.toNat x47) FV.nilp)) (when ((decide (0 ≤ x47)) && (decide (x47 < (List.length h4097_5 : Int)))) (when (FV.fits 1 false (List.getD h4097_5 (Int.toNat x47) FV.nilp)) (when (FV.isStr (List.getD h4097_5 (Int.toNat x47) FV.nilp)) (ifB (!(ByteArray.toList (FV.toStr (List.getD h4096_5 (Int.toNat x47) FV.nilp)) == ByteArray.toList (FV.toStr (List.getD h4097_5 (Int.toNat x47) FV.nilp))))
   (some (.ret, X_jval_Same_1_0 false h4096_0 h4096_1 h4096_2 h4096_3 h4096_4 h4096_5 h4097_0 h4097_1 h4097_2 h4097_3 h4097_4 h4097_5))
   (L_jval_Same_1_0 R k w n x46 (IntKind.wrap .i64 (x47 + 1)) h4096_0 h4096_1 h4096_2 h4096_3 h4096_4 h4096_5 h4097_0 h4097_1 h4097_2 h4097_3 h4097_4 h4097_5))))))))
  (some ((.exit 0), X_jval_Same_1_1 h4096_0 h4096_1 h4096_2 h4096_3 h4096_4 h4096_5 h4097_0 h4097_1 h4097_2 h4097_3 h4097_4 h4097_5)) := by kernel_rfl
theorem X_jval_Same_1_0_eq (R : Orc) (k : Nat) (w : Bool) (x4 : Bool) (h4096_0 : Int) (h4096_1 : Int) (h4096_2 : Int) (h4096_3 : ByteArray) (h4096_4 : List FV) (h4096_5 : List FV) (h4097_0 : Int) (h4097_1 : Int) (h4097_2 : Int) (h4097_3 : ByteArray) (h4097_4 : List FV) (h4097_5 : List FV) : K_jval_Same_1 R k w .ret (X_jval_Same_1_0 x4 h4096_0 h4096_1 h4096_2 h4096_3 h4096_4 h4096_5 h4097_0 h4097_1 h4097_2 h4097_3 h4097_4 h4097_5) = some ([.fz (FV.bool x4)], []) := by kernel_rfl
theorem X_jval_Same_1_1_eq (R : Orc) (k : Nat) (w : Bool) (h4096_0 : Int) (h4096_1 : Int) (h4096_2 : Int) (h4096_3 : ByteArray) (h4096_4 : List FV) (h4096_5 : List FV) (h4097_0 : Int) (h4097_1 : Int) (h4097_2 : Int) (h4097_3 : ByteArray) (h4097_4 : List FV) (h4097_5 : List FV) : K_jval_Same_1 R k w (.exit 0) (X_jval_Same_1_1 h4096_0 h4096_1 h4096_2 h4096_3 h4096_4 h4096_5 h4097_0 h4097_1 h4097_2 h4097_3 h4097_4 h4097_5) = onL (L_jval_Same_2_0 R k w k (List.length h4096_4 : Int) 0 h4096_0 h4096_1 h4096_2 h4096_3 h4096_4 h4096_5 h4097_0 h4097_1 h4097_2 h4097_3 h4097_4 h4097_5) (K_jval_Same_2 R k w) := by kernel_rfl
theorem L_jval_Same_2_0_eq (R : Orc) (k : Nat) (w : Bool) (n : Nat) (x64 : Int) (x65 : Int) (h4096_0 : Int) (h4096_1 : Int) (h4096_2 : Int) (h4096_3 : ByteArray) (h4096_4 : List FV) (h4096_5 : List FV) (h4097_0 : Int) (h4097_1 : Int) (h4097_2 : Int) (h4097_3 : ByteArray) (h4097_4 : List FV) (h4097_5 : List FV) : L_jval_Same_2_0 R k w (n + 1) x64 x65 h4096_0 h4096_1 h4096_2 h4096_3 h4096_4 h4096_5 h4097_0 h4097_1 h4097_2 h4097_3 h4097_4 h4097_5 = ifB (decide (x65 < x64))
  (when ((decide (0 ≤ x65)) && (decide (x65 < (List.length h4096_4 : Int)))) (when (FV.fits 6 true (List.getD h4096_4 (Int.toNat x65) FV.nilp)) (when ((decide (0 ≤ x65)) && (decide (x65 < (List.length h4097_4 : Int)))) (when (FV.fits 6 true (List.getD h4097_4 (Int.toNat x65) FV.nilp)) (onR (R N_jval_Same [.fz (List.getD h4096_4 (Int.toNat x65) FV.nilp), .fz (List.getD h4097_4 (Int.toNat x65) FV.nilp)]) fun r0 => when (List.isEmpty r0.2 && allF [.fz] r0.1) (when (FV.isBool (TV.toF (List.getD r0.1 0 TV.em))) (ifB (!(FV.toBool (TV.toF (List.getD r0.1 0 TV.em))))
   (some (.ret, X_jval_Same_2_0 false))
   (L_jval_Same_2_0 R k w n x64 (IntKind.wrap .i64 (x65 + 1)) h4096_0 h4096_1 h4096_2 h4096_3 h4096_4 h4096_5 h4097_0 h4097_1 h4097_2 h4097_3 h4097_4 h4097_5))))))))
  (some ((.exit 2), X_jval_Same_2_1)) := by kernel_rfl
theorem X_jval_Same_2_0_eq (R : Orc) (k : Nat) (w : Bool) (x4 : Bool) : K_jval_Same_2 R k w .ret (X_jval_Same_2_0 x4) = some ([.fz (FV.bool x4)], []) := by kernel_rfl
theorem X_jval_Same_2_1_eq (R : Orc) (k : Nat) (w : Bool) : K_jval_Same_2 R k w (.exit 2) (X_jval_Same_2_1) = some ([.fz (FV.bool true)], []) := by kernel_rfl
/-! keyhole/keyholeref05.Flat -/
def A_ref05_Flat_b1 : ACode := .seq (.seq (.region [⟨(some 8), .mov (.t 5), none, some (.int .i64)⟩,
   ⟨(some 9), .fadr 4 (.t 2), none, none⟩,
   ⟨(some 10), .load 1 false (.t 9), none, none⟩,
   ⟨(some 11), .len (.sl 6 true) (.t 10), none, some (.int .i64)⟩,
   ⟨(some 12), .binI .lss .i64 (.t 8) (.t 11), none, some .bool⟩])
  (.cond (.t 12) (.skip)
   (.exit 0)))
 (.seq (.block 1 (.seq (.region [⟨(some 15), .fadr 4 (.t 2), none, none⟩,
     ⟨(some 16), .load 1 false (.t 15), none, none⟩,
     ⟨(some 17), .mov (.t 5), none, some (.int .i64)⟩,
     ⟨(some 18), .iadr (.sl 6 true) (.t 16) (.t 17), none, none⟩,
     ⟨(some 19), .load 6 true (.t 18), none, none⟩,
     ⟨(some 20), .mov (.t 1), none, some (.int .i64)⟩,
     ⟨(some 21), .binI .sub .i64 (.t 20) (.c (.fz (.int .i64 1))), none, some (.int .i64)⟩,
     ⟨(some 22), .call N_ref05_Flat [((.t 19), .fz), ((.t 21), .fz)] [.fz], none, some .bool⟩,
     ⟨(some 23), .notB (.t 22), none, some .bool⟩])
    (.cond (.t 23) (.seq (.region [⟨(some 4), .mov (.c (.fz (.bool false))), none, some .bool⟩])
      (.ret))
     (.skip))))
  (.region [⟨(some 13), .mov (.t 5), none, some (.int .i64)⟩,
   ⟨(some 14), .binI .add .i64 (.t 13) (.c (.fz (.int .i64 1))), none, some (.int .i64)⟩,
   ⟨(some 5), .mov (.t 14), none, some (.int .i64)⟩]))
def A_ref05_Flat_s1 : ACode := .seq (.region [⟨(some 4), .mov (.c (.fz (.bool true))), none, some .bool⟩])
 (.ret)
def A_ref05_Flat : AFunc := ⟨2, [(.tmp 4, .fz)], .seq (.region [⟨(some 2), .box 6 true (.t 0), none, none⟩,
  ⟨(some 4), .mov (.c (.fz (.bool false))), none, some .bool⟩])
 (.seq (.seq (.region [⟨(some 6), .mov (.t 1), none, some (.int .i64)⟩,
    ⟨(some 7), .binI .lss .i64 (.t 6) (.c (.fz (.int .i64 0))), none, some .bool⟩])
   (.cond (.t 7) (.seq (.region [⟨(some 4), .mov (.c (.fz (.bool false))), none, some .bool⟩])
     (.ret))
    (.skip)))
  (.seq (.seq (.region [⟨(some 5), .mov (.c (.fz (.int .i64 0))), none, some (.int .i64)⟩])
    (.block 0 (.loop [1, 2, 5] [4] A_ref05_Flat_b1)))
   A_ref05_Flat_s1))⟩
def K_ref05_Flat_1 (R : Orc) (k : Nat) (w : Bool) : AExit → St → Option Ans := (kBlk 0 (kSeq R k w [] A_ref05_Flat_s1 (kFin R [(.tmp 4, .fz)] [])))
def L_ref05_Flat_1_0 (R : Orc) (k : Nat) (w : Bool) (n : Nat) (x1 : Int) (x5 : Int) (h4096_0 : Int) (h4096_1 : Int) (h4096_2 : Int) (h4096_3 : ByteArray) (h4096_4 : List FV) (h4096_5 : List FV) := loopL R k w [] [1, 2, 5] [4] A_ref05_Flat_b1 n ⟨[(1, .fz (FV.int .i64 x1)), (2, .ptr 4096 0 0), (5, .fz (FV.int .i64 x5))], [(4095, .dead), (4096, .var 6 true (.fz (FV.ag [(FV.int .i64 h4096_0), (FV.int .i64 h4096_1), (FV.int .i64 h4096_2), (FV.str h4096_3), (FV.sl h4096_4), (FV.sl h4096_5)])))]⟩
def X_ref05_Flat_1_0 (x4 : Bool) : St := ⟨[(4, .fz (FV.bool x4))], [(4095, .dead)]⟩
def X_ref05_Flat_1_1 : St := ⟨[], [(4095, .dead)]⟩
theorem E_ref05_Flat (R : Orc) (k : Nat) (w : Bool) (a0_0 : Int) (a0_1_0 : Int) (a0_1_1 : Int) (a0_2 : ByteArray) (a0_3 : List FV) (a0_4 : List FV) (a1 : Int) : callL R k w A_ref05_Flat [.fz (FV.ag [(FV.int .i64 a0_0), (FV.int .i64 a0_1_0), (FV.int .i64 a0_1_1), (FV.str a0_2), (FV.sl a0_3), (FV.sl a0_4)]), .fz (FV.int .i64 a1)] = ifB (decide (a1 < 0))
  (some ([.fz (FV.bool false)], []))
  (onL (L_ref05_Flat_1_0 R k w k a1 0 a0_0 a0_1_0 a0_1_1 a0_2 a0_3 a0_4) (K_ref05_Flat_1 R k w)) := by kernel_rfl
theorem L_ref05_Flat_1_0_eq (R : Orc) (k : Nat) (w : Bool) (n : Nat) (x1 : Int) (x5 : Int) (h4096_0 : Int) (h4096_1 : Int) (h4096_2 : Int) (h4096_3 : ByteArray) (h4096_4 : List FV) (h4096_5 : List FV) : L_ref05_Flat_1_0 R k w (n + 1) x1 x5 h4096_0 h4096_1 h4096_2 h4096_3 h4096_4 h4096_5 = ifB (decide (x5 < (List.length h4096_4 : Int)))
  (when ((decide (0 ≤ x5)) && (decide (x5 < (List.length h4096_4 : Int)))) (when (FV.fits 6 true (List.getD h4096_4 (Int.toNat x5) FV.nilp)) (onR (R N_ref05_Flat [.fz (List.getD h4096_4 (Int.toNat x5) FV.nilp), .fz (FV.int .i64 (IntKind.wrap .i64 (x1 - 1)))]) fun r0 => when (List.isEmpty r0.2 && allF [.fz] r0.1) (when (FV.isBool (TV.toF (List.getD r0.1 0 TV.em))) (ifB (!(FV.toBool (TV.toF (List.getD r0.1 0 TV.em))))
   (some (.ret, X_ref05_Flat_1_0 false))
   (L_ref05_Flat_1_0 R k w n x1 (IntKind.wrap .i64 (x5 + 1)) h4096_0 h4096_1 h4096_2 h4096_3 h4096_4 h4096_5))))))
  (some ((.exit 0), X_ref05_Flat_1_1)) := by kernel_rfl
theorem X_ref05_Flat_1_0_eq (R : Orc) (k : Nat) (w : Bool) (x4 : Bool) : K_ref05_Flat_1 R k w .ret (X_ref05_Flat_1_0 x4) = some ([.fz (FV.bool x4)], []) := by kernel_rfl
theorem X_ref05_Flat_1_1_eq (R : Orc) (k : Nat) (w : Bool) : K_ref05_Flat_1 R k w (.exit 0) (X_ref05_Flat_1_1) = some ([.fz (FV.bool true)], []) := by kernel_rfl
/-! keyhole/keyholeref05.zero -/
def A_ref05_zero_j1 : ACode := .seq (.region [⟨(some 33), .fadr 0 (.t 1), none, none⟩,
  ⟨(some 34), .load 1 false (.t 33), none, some (.int .i64)⟩,
  ⟨(some 35), .binI .eql .i64 (.t 34) (.c (.fz (.int .i64 5))), none, some .bool⟩,
  ⟨(some 36), .mov (.t 35), none, some .bool⟩,
  ⟨(some 37), .fadr 0 (.t 1), (some (36, false)), none⟩,
  ⟨(some 38), .load 1 false (.t 37), (some (36, false)), some (.int .i64)⟩,
  ⟨(some 39), .binI .eql .i64 (.t 38) (.c (.fz (.int .i64 6))), (some (36, false)), some .bool⟩,
  ⟨(some 40), .pick (.t 36) (.c (.fz (.bool true))) (.t 39), none, some .bool⟩,
  ⟨(some 41), .mov (.t 40), none, some .bool⟩,
  ⟨(some 42), .fadr 4 (.t 1), (some (41, false)), none⟩,
  ⟨(some 43), .load 1 false (.t 42), (some (41, false)), none⟩,
  ⟨(some 44), .len (.sl 6 true) (.t 43), (some (41, false)), some (.int .i64)⟩,
  ⟨(some 45), .binI .eql .i64 (.t 44) (.c (.fz (.int .i64 0))), (some (41, false)), some .bool⟩,
  ⟨(some 46), .pick (.t 41) (.c (.fz (.bool true))) (.t 45), none, some .bool⟩,
  ⟨(some 47), .mov (.t 46), none, some .bool⟩,
  ⟨(some 48), .fadr 0 (.t 1), (some (47, true)), none⟩,
  ⟨(some 49), .load 1 false (.t 48), (some (47, true)), some (.int .i64)⟩,
  ⟨(some 50), .binI .eql .i64 (.t 49) (.c (.fz (.int .i64 6))), (some (47, true)), some .bool⟩,
  ⟨(some 51), .mov (.t 50), (some (47, true)), some .bool⟩,
  ⟨(some 52), .fadr 5 (.t 1), (some (51, false)), none⟩,
  ⟨(some 53), .load 1 false (.t 52), (some (51, false)), none⟩,
  ⟨(some 54), .len (.sl 1 false) (.t 53), (some (51, false)), some (.int .i64)⟩,
  ⟨(some 55), .binI .eql .i64 (.t 54) (.c (.fz (.int .i64 0))), (some (51, false)), some .bool⟩,
  ⟨(some 56), .pick (.t 51) (.c (.fz (.bool true))) (.t 55), (some (47, true)), some .bool⟩,
  ⟨(some 57), .pick (.t 47) (.t 56) (.c (.fz (.bool false))), none, some .bool⟩,
  ⟨(some 2), .mov (.t 57), none, some .bool⟩])
 (.ret)
def A_ref05_zero : AFunc := ⟨1, [(.tmp 2, .fz)], .seq (.region [⟨(some 1), .box 6 true (.t 0), none, none⟩,
  ⟨(some 2), .mov (.c (.fz (.bool false))), none, some .bool⟩])
 (.seq (.seq (.region [⟨(some 3), .fadr 0 (.t 1), none, none⟩,
    ⟨(some 4), .load 1 false (.t 3), none, some (.int .i64)⟩,
    ⟨(some 5), .binI .neq .i64 (.t 4) (.c (.fz (.int .i64 3))), none, some .bool⟩,
    ⟨(some 6), .mov (.t 5), none, some .bool⟩,
    ⟨(some 7), .fadr 1 (.t 1), (some (6, true)), none⟩,
    ⟨(some 8), .fadr 0 (.t 7), (some (6, true)), none⟩,
    ⟨(some 9), .load 1 false (.t 8), (some (6, true)), some (.int .i64)⟩,
    ⟨(some 10), .binI .neq .i64 (.t 9) (.c (.fz (.int .i64 0))), (some (6, true)), some .bool⟩,
    ⟨(some 11), .mov (.t 10), (some (6, true)), some .bool⟩,
    ⟨(some 12), .fadr 1 (.t 1), (some (11, false)), none⟩,
    ⟨(some 13), .fadr 1 (.t 12), (some (11, false)), none⟩,
    ⟨(some 14), .load 1 false (.t 13), (some (11, false)), some (.int .i64)⟩,
    ⟨(some 15), .binI .neq .i64 (.t 14) (.c (.fz (.int .i64 0))), (some (11, false)), some .bool⟩,
    ⟨(some 16), .pick (.t 11) (.c (.fz (.bool true))) (.t 15), (some (6, true)), some .bool⟩,
    ⟨(some 17), .pick (.t 6) (.t 16) (.c (.fz (.bool false))), none, some .bool⟩,
    ⟨(some 18), .mov (.t 17), none, some .bool⟩,
    ⟨(some 19), .fadr 0 (.t 1), (some (18, false)), none⟩,
    ⟨(some 20), .load 1 false (.t 19), (some (18, false)), some (.int .i64)⟩,
    ⟨(some 21), .binI .neq .i64 (.t 20) (.c (.fz (.int .i64 4))), (some (18, false)), some .bool⟩,
    ⟨(some 22), .mov (.t 21), (some (18, false)), some .bool⟩,
    ⟨(some 23), .fadr 0 (.t 1), (some (22, true)), none⟩,
    ⟨(some 24), .load 1 false (.t 23), (some (22, true)), some (.int .i64)⟩,
    ⟨(some 25), .binI .neq .i64 (.t 24) (.c (.fz (.int .i64 7))), (some (22, true)), some .bool⟩,
    ⟨(some 26), .pick (.t 22) (.t 25) (.c (.fz (.bool false))), (some (18, false)), some .bool⟩,
    ⟨(some 27), .mov (.t 26), (some (18, false)), some .bool⟩,
    ⟨(some 28), .fadr 3 (.t 1), (some (27, true)), none⟩,
    ⟨(some 29), .load 1 false (.t 28), (some (27, true)), some .str⟩,
    ⟨(some 30), .binS .neq (.t 29) (.c (.fz (.str ⟨#[]⟩))), (some (27, true)), some .bool⟩,
    ⟨(some 31), .pick (.t 27) (.t 30) (.c (.fz (.bool false))), (some (18, false)), some .bool⟩,
    ⟨(some 32), .pick (.t 18) (.c (.fz (.bool true))) (.t 31), none, some .bool⟩])
   (.cond (.t 32) (.seq (.region [⟨(some 2), .mov (.c (.fz (.bool false))), none, some .bool⟩])
     (.ret))
    (.skip)))
  (.trim [1] A_ref05_zero_j1))⟩
def J_ref05_zero_1_0 (R : Orc) (k : Nat) (w : Bool) (h4096_0 : Int) (h4096_1 : Int) (h4096_2 : Int) (h4096_3 : ByteArray) (h4096_4 : List FV) (h4096_5 : List FV) := execL R k w [] A_ref05_zero_j1 Ans ⟨[(1, .ptr 4096 0 0)], [(4095, .dead), (4096, .var 6 true (.fz (FV.ag [(FV.int .i64 h4096_0), (FV.int .i64 h4096_1), (FV.int .i64 h4096_2), (FV.str h4096_3), (FV.sl h4096_4), (FV.sl h4096_5)])))]⟩ (kFin R [(.tmp 2, .fz)] [])
theorem E_ref05_zero (R : Orc) (k : Nat) (w : Bool) (a0_0 : Int) (a0_1_0 : Int) (a0_1_1 : Int) (a0_2 : ByteArray) (a0_3 : List FV) (a0_4 : List FV) : callL R k w A_ref05_zero [.fz (FV.ag [(FV.int .i64 a0_0), (FV.int .i64 a0_1_0), (FV.int .i64 a0_1_1), (FV.str a0_2), (FV.sl a0_3), (FV.sl a0_4)])] = ifB (a0_0 != 3)
  (ifB (a0_1_0 != 0)
   (some ([.fz (FV.bool false)], []))
   (ifB (a0_1_1 != 0)
    (some ([.fz (FV.bool false)], []))
    (ifB (a0_0 != 4)
     (ifB (a0_0 != 7)
      (ifB (!(ByteArray.toList a0_2 == ByteArray.toList (⟨#[]⟩ : ByteArray)))
       (some ([.fz (FV.bool false)], []))
       (jump w (J_ref05_zero_1_0 R k w a0_0 a0_1_0 a0_1_1 a0_2 a0_3 a0_4)))
      (jump w (J_ref05_zero_1_0 R k w a0_0 a0_1_0 a0_1_1 a0_2 a0_3 a0_4)))
     (jump w (J_ref05_zero_1_0 R k w a0_0 a0_1_0 a0_1_1 a0_2 a0_3 a0_4)))))
  (ifB (a0_0 != 4)
   (ifB (a0_0 != 7)
    (ifB (!(ByteArray.toList a0_2 == ByteArray.toList (⟨#[]⟩ : ByteArray)))
     (some ([.fz (FV.bool false)], []))
     (jump w (J_ref05_zero_1_0 R k w a0_0 a0_1_0 a0_1_1 a0_2 a0_3 a0_4)))
    (jump w (J_ref05_zero_1_0 R k w a0_0 a0_1_0 a0_1_1 a0_2 a0_3 a0_4)))
   (jump w (J_ref05_zero_1_0 R k w a0_0 a0_1_0 a0_1_1 a0_2 a0_3 a0_4))) := by kernel_rfl
theorem J_ref05_zero_1_0_eq (R : Orc) (k : Nat) (w : Bool) (h4096_0 : Int) (h4096_1 : Int) (h4096_2 : Int) (h4096_3 : ByteArray) (h4096_4 : List FV) (h4096_5 : List FV) : J_ref05_zero_1_0 R k w h4096_0 h4096_1 h4096_2 h4096_3 h4096_4 h4096_5 = ifB (h4096_0 == 5)
  (ifB (h4096_0 == 6)
   (some ([.fz (FV.bool true)], []))
   (some ([.fz (FV.bool ((List.length h4096_5 : Int) == 0))], [])))
  (ifB (h4096_0 == 6)
   (ifB (h4096_0 == 6)
    (some ([.fz (FV.bool true)], []))
    (some ([.fz (FV.bool ((List.length h4096_5 : Int) == 0))], [])))
   (ifB ((List.length h4096_4 : Int) == 0)
    (ifB (h4096_0 == 6)
     (some ([.fz (FV.bool true)], []))
     (some ([.fz (FV.bool ((List.length h4096_5 : Int) == 0))], [])))
    (some ([.fz (FV.bool false)], [])))) := by kernel_rfl
/-! keyhole/keyholeref03.Signs -/
def A_ref03_Signs_j1 : ACode := .cond (.t 25) (.region [⟨(some 26), .mov (.t 6), none, some (.int .i64)⟩,
  ⟨(some 27), .binI .sub .i64 (.t 26) (.c (.fz (.int .i64 240))), none, some (.int .i64)⟩,
  ⟨(some 7), .mov (.c (.fz (.int .i64 4))), none, some (.int .i64)⟩,
  ⟨(some 8), .mov (.t 27), none, some (.int .i64)⟩])
 (.seq (.region [⟨(some 28), .mov (.t 6), none, some (.int .i64)⟩,
   ⟨(some 29), .binI .geq .i64 (.t 28) (.c (.fz (.int .i64 224))), none, some .bool⟩])
  (.cond (.t 29) (.region [⟨(some 30), .mov (.t 6), none, some (.int .i64)⟩,
    ⟨(some 31), .binI .sub .i64 (.t 30) (.c (.fz (.int .i64 224))), none, some (.int .i64)⟩,
    ⟨(some 7), .mov (.c (.fz (.int .i64 3))), none, some (.int .i64)⟩,
    ⟨(some 8), .mov (.t 31), none, some (.int .i64)⟩])
   (.seq (.region [⟨(some 32), .mov (.t 6), none, some (.int .i64)⟩,
     ⟨(some 33), .binI .geq .i64 (.t 32) (.c (.fz (.int .i64 192))), none, some .bool⟩])
    (.cond (.t 33) (.region [⟨(some 34), .mov (.t 6), none, some (.int .i64)⟩,
      ⟨(some 35), .binI .sub .i64 (.t 34) (.c (.fz (.int .i64 192))), none, some (.int .i64)⟩,
      ⟨(some 7), .mov (.c (.fz (.int .i64 2))), none, some (.int .i64)⟩,
      ⟨(some 8), .mov (.t 35), none, some (.int .i64)⟩])
     (.skip)))))
def A_ref03_Signs_j2 : ACode := .region [⟨(some 71), .mov (.t 8), none, some (.int .i64)⟩,
 ⟨(some 72), .binI .mul .i64 (.c (.fz (.int .i64 64))) (.t 71), none, some (.int .i64)⟩,
 ⟨(some 73), .mov (.t 10), none, some (.int .i64)⟩,
 ⟨(some 74), .binI .add .i64 (.t 72) (.t 73), none, some (.int .i64)⟩,
 ⟨(some 75), .binI .sub .i64 (.t 74) (.c (.fz (.int .i64 128))), none, some (.int .i64)⟩,
 ⟨(some 8), .mov (.t 75), none, some (.int .i64)⟩]
def A_ref03_Signs_s3 : ACode := .region [⟨(some 57), .mov (.t 9), none, some (.int .i64)⟩,
 ⟨(some 58), .binI .add .i64 (.t 57) (.c (.fz (.int .i64 1))), none, some (.int .i64)⟩,
 ⟨(some 9), .mov (.t 58), none, some (.int .i64)⟩]
def A_ref03_Signs_b1 : ACode := .seq (.seq (.region [⟨(some 54), .mov (.t 9), none, some (.int .i64)⟩,
   ⟨(some 55), .mov (.t 7), none, some (.int .i64)⟩,
   ⟨(some 56), .binI .lss .i64 (.t 54) (.t 55), none, some .bool⟩])
  (.cond (.t 56) (.skip)
   (.exit 2)))
 (.seq (.block 3 (.seq (.region [⟨(some 59), .mov (.t 0), none, some .str⟩,
     ⟨(some 60), .mov (.t 5), none, some (.int .i64)⟩,
     ⟨(some 61), .mov (.t 9), none, some (.int .i64)⟩,
     ⟨(some 62), .binI .add .i64 (.t 60) (.t 61), none, some (.int .i64)⟩,
     ⟨(some 63), .index .str (.t 59) (.t 62), none, some (.int .u8)⟩,
     ⟨(some 64), .conv .u8 .i64 (.t 63), none, some (.int .i64)⟩,
     ⟨(some 10), .mov (.t 64), none, some (.int .i64)⟩])
    (.seq (.seq (.region [⟨(some 65), .mov (.t 10), none, some (.int .i64)⟩,
       ⟨(some 66), .binI .lss .i64 (.t 65) (.c (.fz (.int .i64 128))), none, some .bool⟩,
       ⟨(some 67), .mov (.t 66), none, some .bool⟩,
       ⟨(some 68), .mov (.t 10), (some (67, false)), some (.int .i64)⟩,
       ⟨(some 69), .binI .gtr .i64 (.t 68) (.c (.fz (.int .i64 191))), (some (67, false)), some .bool⟩,
       ⟨(some 70), .pick (.t 67) (.c (.fz (.bool true))) (.t 69), none, some .bool⟩])
      (.cond (.t 70) (.seq (.region [⟨(some 2), .mov (.c (.nils)), none, none⟩,
         ⟨(some 3), .mov (.c (.fz (.bool false))), none, some .bool⟩])
        (.ret))
       (.skip)))
     (.trim [0, 4, 5, 7, 8, 9, 10] A_ref03_Signs_j2))))
  A_ref03_Signs_s3)
def A_ref03_Signs_j4 : ACode := .seq (.region [⟨(some 98), .mov (.t 4), none, none⟩,
  ⟨(some 99), .mov (.t 8), none, some (.int .i64)⟩,
  ⟨(some 100), .buildSl 1 false 1 (.int .i64 0) [(0, (.t 99))], none, none⟩,
  ⟨(some 101), .append 1 false 8 false (.t 98) (.t 100), none, none⟩,
  ⟨(some 4), .mov (.t 101), none, none⟩])
 (.region [⟨(some 102), .mov (.t 5), none, some (.int .i64)⟩,
  ⟨(some 103), .mov (.t 7), none, some (.int .i64)⟩,
  ⟨(some 104), .binI .add .i64 (.t 102) (.t 103), none, some (.int .i64)⟩,
  ⟨(some 5), .mov (.t 104), none, some (.int .i64)⟩])
def A_ref03_Signs_s5 : ACode := .seq (.seq (.draws [⟨⟨(some 76), .mov (.t 8), none, some (.int .i64)⟩, []⟩,
   ⟨⟨(some 77), .binI .gtr .i64 (.t 76) (.c (.fz (.int .i64 1114111))), none, some .bool⟩, [0]⟩,
   ⟨⟨(some 78), .mov (.t 77), none, some .bool⟩, [1]⟩,
   ⟨⟨(some 79), .mov (.t 8), (some (78, false)), some (.int .i64)⟩, [2]⟩,
   ⟨⟨(some 80), .binI .geq .i64 (.t 79) (.c (.fz (.int .i64 55296))), (some (78, false)), some .bool⟩, [3, 2]⟩,
   ⟨⟨(some 81), .mov (.t 80), (some (78, false)), some .bool⟩, [4, 2, 2]⟩,
   ⟨⟨(some 82), .mov (.t 8), (some (81, true)), some (.int .i64)⟩, [5]⟩,
   ⟨⟨(some 83), .binI .lss .i64 (.t 82) (.c (.fz (.int .i64 57344))), (some (81, true)), some .bool⟩, [6, 5]⟩,
   ⟨⟨(some 84), .pick (.t 81) (.t 83) (.c (.fz (.bool false))), (some (78, false)), some .bool⟩, [5, 7, 2]⟩,
   ⟨⟨(some 85), .pick (.t 78) (.c (.fz (.bool true))) (.t 84), none, some .bool⟩, [2, 8]⟩,
   ⟨⟨(some 86), .mov (.t 85), none, some .bool⟩, [9, 5]⟩,
   ⟨⟨(some 87), .mov (.t 8), (some (86, false)), some (.int .i64)⟩, [10]⟩,
   ⟨⟨(some 88), .call N_ref03_Put [((.t 87), .fz)] [.fz], (some (86, false)), none⟩, [11, 10, 10]⟩,
   ⟨⟨(some 89), .b2s (.t 88), (some (86, false)), some .str⟩, [12, 10]⟩,
   ⟨⟨(some 90), .mov (.t 0), (some (86, false)), some .str⟩, [10]⟩,
   ⟨⟨(some 91), .mov (.t 5), (some (86, false)), some (.int .i64)⟩, [10]⟩,
   ⟨⟨(some 92), .mov (.t 5), (some (86, false)), some (.int .i64)⟩, [10]⟩,
   ⟨⟨(some 93), .mov (.t 7), (some (86, false)), some (.int .i64)⟩, [10]⟩,
   ⟨⟨(some 94), .binI .add .i64 (.t 92) (.t 93), (some (86, false)), some (.int .i64)⟩, [16, 17, 10]⟩,
   ⟨⟨(some 95), .slice .str (.t 90) (some (.t 91)) (some (.t 94)) none, (some (86, false)), some .str⟩, [14, 15, 18, 10]⟩,
   ⟨⟨(some 96), .binS .neq (.t 89) (.t 95), (some (86, false)), some .bool⟩, [13, 19, 10]⟩,
   ⟨⟨(some 97), .pick (.t 86) (.c (.fz (.bool true))) (.t 96), none, some .bool⟩, [10, 20]⟩])
  (.cond (.t 97) (.seq (.region [⟨(some 2), .mov (.c (.nils)), none, none⟩,
     ⟨(some 3), .mov (.c (.fz (.bool false))), none, some .bool⟩])
    (.ret))
   (.skip)))
 (.trim [0, 4, 5, 7, 8] A_ref03_Signs_j4)
def A_ref03_Signs_j6 : ACode := .seq (.seq (.region [⟨(some 9), .mov (.c (.fz (.int .i64 1))), none, some (.int .i64)⟩])
  (.block 2 (.loop [0, 4, 5, 7, 8, 9] [0, 2, 3, 4, 5, 7, 8] A_ref03_Signs_b1)))
 A_ref03_Signs_s5
def A_ref03_Signs_j7 : ACode := .seq (.seq (.region [⟨(some 36), .mov (.t 6), none, some (.int .i64)⟩,
   ⟨(some 37), .binI .geq .i64 (.t 36) (.c (.fz (.int .i64 248))), none, some .bool⟩,
   ⟨(some 38), .mov (.t 37), none, some .bool⟩,
   ⟨(some 39), .mov (.t 6), (some (38, false)), some (.int .i64)⟩,
   ⟨(some 40), .binI .geq .i64 (.t 39) (.c (.fz (.int .i64 128))), (some (38, false)), some .bool⟩,
   ⟨(some 41), .mov (.t 40), (some (38, false)), some .bool⟩,
   ⟨(some 42), .mov (.t 6), (some (41, true)), some (.int .i64)⟩,
   ⟨(some 43), .binI .lss .i64 (.t 42) (.c (.fz (.int .i64 192))), (some (41, true)), some .bool⟩,
   ⟨(some 44), .pick (.t 41) (.t 43) (.c (.fz (.bool false))), (some (38, false)), some .bool⟩,
   ⟨(some 45), .pick (.t 38) (.c (.fz (.bool true))) (.t 44), none, some .bool⟩,
   ⟨(some 46), .mov (.t 45), none, some .bool⟩,
   ⟨(some 47), .mov (.t 5), (some (46, false)), some (.int .i64)⟩,
   ⟨(some 48), .mov (.t 7), (some (46, false)), some (.int .i64)⟩,
   ⟨(some 49), .binI .add .i64 (.t 47) (.t 48), (some (46, false)), some (.int .i64)⟩,
   ⟨(some 50), .mov (.t 0), (some (46, false)), some .str⟩,
   ⟨(some 51), .len .str (.t 50), (some (46, false)), some (.int .i64)⟩,
   ⟨(some 52), .binI .gtr .i64 (.t 49) (.t 51), (some (46, false)), some .bool⟩,
   ⟨(some 53), .pick (.t 46) (.c (.fz (.bool true))) (.t 52), none, some .bool⟩])
  (.cond (.t 53) (.seq (.region [⟨(some 2), .mov (.c (.nils)), none, none⟩,
     ⟨(some 3), .mov (.c (.fz (.bool false))), none, some .bool⟩])
    (.ret))
   (.skip)))
 (.trim [0, 4, 5, 7, 8] A_ref03_Signs_j6)
def A_ref03_Signs_s8 : ACode := .trim [0, 4, 5, 6, 7, 8] A_ref03_Signs_j7
def A_ref03_Signs_b2 : ACode := .seq (.seq (.region [⟨(some 11), .mov (.t 5), none, some (.int .i64)⟩,
   ⟨(some 12), .mov (.t 0), none, some .str⟩,
   ⟨(some 13), .len .str (.t 12), none, some (.int .i64)⟩,
   ⟨(some 14), .binI .lss .i64 (.t 11) (.t 13), none, some .bool⟩])
  (.cond (.t 14) (.skip)
   (.exit 0)))
 (.block 1 (.seq (.region [⟨(some 15), .mov (.t 0), none, some .str⟩,
    ⟨(some 16), .mov (.t 5), none, some (.int .i64)⟩,
    ⟨(some 17), .index .str (.t 15) (.t 16), none, some (.int .u8)⟩,
    ⟨(some 18), .conv .u8 .i64 (.t 17), none, some (.int .i64)⟩,
    ⟨(some 6), .mov (.t 18), none, some (.int .i64)⟩])
   (.seq (.region [⟨(some 19), .mov (.t 6), none, some (.int .i64)⟩,
     ⟨(some 7), .mov (.c (.fz (.int .i64 1))), none, some (.int .i64)⟩,
     ⟨(some 8), .mov (.t 19), none, some (.int .i64)⟩])
    (.seq (.seq (.region [⟨(some 20), .mov (.t 6), none, some (.int .i64)⟩,
       ⟨(some 21), .binI .geq .i64 (.t 20) (.c (.fz (.int .i64 240))), none, some .bool⟩,
       ⟨(some 22), .mov (.t 21), none, some .bool⟩,
       ⟨(some 23), .mov (.t 6), (some (22, true)), some (.int .i64)⟩,
       ⟨(some 24), .binI .lss .i64 (.t 23) (.c (.fz (.int .i64 248))), (some (22, true)), some .bool⟩,
       ⟨(some 25), .pick (.t 22) (.t 24) (.c (.fz (.bool false))), none, some .bool⟩])
      (.trim [0, 4, 5, 6, 7, 8, 25] A_ref03_Signs_j1))
     A_ref03_Signs_s8))))
def A_ref03_Signs_s9 : ACode := .seq (.region [⟨(some 105), .mov (.t 4), none, none⟩,
  ⟨(some 2), .mov (.t 105), none, none⟩,
  ⟨(some 3), .mov (.c (.fz (.bool true))), none, some .bool⟩])
 (.ret)
def A_ref03_Signs : AFunc := ⟨1, [(.tmp 2, .fz), (.tmp 3, .fz)], .seq (.region [⟨(some 2), .mov (.c (.nils)), none, none⟩,
  ⟨(some 3), .mov (.c (.fz (.bool false))), none, some .bool⟩])
 (.seq (.region [⟨(some 4), .mov (.c (.nils)), none, none⟩])
  (.seq (.seq (.region [⟨(some 5), .mov (.c (.fz (.int .i64 0))), none, some (.int .i64)⟩])
    (.block 0 (.loop [0, 4, 5] [2, 3, 4] A_ref03_Signs_b2)))
   A_ref03_Signs_s9))⟩
def K_ref03_Signs_2 (R : Orc) (k : Nat) (w : Bool) : AExit → St → Option Ans := (kBlk 0 (kSeq R k w [] A_ref03_Signs_s9 (kFin R [(.tmp 2, .fz), (.tmp 3, .fz)] [])))
def L_ref03_Signs_2_0 (R : Orc) (k : Nat) (w : Bool) (n : Nat) (x0 : ByteArray) (x5 : Int) := loopL R k w [] [0, 4, 5] [2, 3, 4] A_ref03_Signs_b2 n ⟨[(0, .fz (FV.str x0)), (4, .nils), (5, .fz (FV.int .i64 x5))], [(4095, .dead)]⟩
def J_ref03_Signs_1_0 (R : Orc) (k : Nat) (w : Bool) (n : Nat) (x0 : ByteArray) (x5 : Int) (x6 : Int) (x7 : Int) (x8 : Int) (x25 : Bool) := execL R k w [] A_ref03_Signs_j1 (AExit × St) ⟨[(0, .fz (FV.str x0)), (4, .nils), (5, .fz (FV.int .i64 x5)), (6, .fz (FV.int .i64 x6)), (7, .fz (FV.int .i64 x7)), (8, .fz (FV.int .i64 x8)), (25, .fz (FV.bool x25))], [(4095, .dead)]⟩ (kSeq R k w [] A_ref03_Signs_s8 (kBlk 1 (kLoop R k w [] [0, 4, 5] [2, 3, 4] A_ref03_Signs_b2 n)))
def X_ref03_Signs_2_0 : St := ⟨[(4, .nils)], [(4095, .dead)]⟩
def J_ref03_Signs_7_0 (R : Orc) (k : Nat) (w : Bool) (n : Nat) (x0 : ByteArray) (x5 : Int) (x6 : Int) (x7 : Int) (x8 : Int) := execL R k w [] A_ref03_Signs_j7 (AExit × St) ⟨[(0, .fz (FV.str x0)), (4, .nils), (5, .fz (FV.int .i64 x5)), (6, .fz (FV.int .i64 x6)), (7, .fz (FV.int .i64 x7)), (8, .fz (FV.int .i64 x8))], [(4095, .dead)]⟩ (kBlk 1 (kLoop R k w [] [0, 4, 5] [2, 3, 4] A_ref03_Signs_b2 n))
def X_ref03_Signs_2_1 (x3 : Bool) : St := ⟨[(2, .nils), (3, .fz (FV.bool x3)), (4, .nils)], [(4095, .dead)]⟩
def J_ref03_Signs_6_0 (R : Orc) (k : Nat) (w : Bool) (n : Nat) (x0 : ByteArray) (x5 : Int) (x7 : Int) (x8 : Int) := execL R k w [] A_ref03_Signs_j6 (AExit × St) ⟨[(0, .fz (FV.str x0)), (4, .nils), (5, .fz (FV.int .i64 x5)), (7, .fz (FV.int .i64 x7)), (8, .fz (FV.int .i64 x8))], [(4095, .dead)]⟩ (kBlk 1 (kLoop R k w [] [0, 4, 5] [2, 3, 4] A_ref03_Signs_b2 n))
def K_ref03_Signs_1 (R : Orc) (k : Nat) (w : Bool) (n : Nat) : AExit → St → Option (AExit × St) := (kBlk 2 (kSeq R k w [] A_ref03_Signs_s5 (kBlk 1 (kLoop R k w [] [0, 4, 5] [2, 3, 4] A_ref03_Signs_b2 n))))
def L_ref03_Signs_1_0 (R : Orc) (k : Nat) (w : Bool) (n : Nat) (x0 : ByteArray) (x5 : Int) (x7 : Int) (x8 : Int) (x9 : Int) := loopL R k w [] [0, 4, 5, 7, 8, 9] [0, 2, 3, 4, 5, 7, 8] A_ref03_Signs_b1 n ⟨[(0, .fz (FV.str x0)), (4, .nils), (5, .fz (FV.int .i64 x5)), (7, .fz (FV.int .i64 x7)), (8, .fz (FV.int .i64 x8)), (9, .fz (FV.int .i64 x9))], [(4095, .dead)]⟩
def X_ref03_Signs_1_0 (x0 : ByteArray) (x3 : Bool) (x5 : Int) (x7 : Int) (x8 : Int) : St := ⟨[(0, .fz (FV.str x0)), (2, .nils), (3, .fz (FV.bool x3)), (4, .nils), (5, .fz (FV.int .i64 x5)), (7, .fz (FV.int .i64 x7)), (8, .fz (FV.int .i64 x8))], [(4095, .dead)]⟩
def J_ref03_Signs_2_0 (R : Orc) (k : Nat) (w : Bool) (n : Nat) (x0 : ByteArray) (x5 : Int) (x7 : Int) (x8 : Int) (x9 : Int) (x10 : Int) := execL R k w [] A_ref03_Signs_j2 (AExit × St) ⟨[(0, .fz (FV.str x0)), (4, .nils), (5, .fz (FV.int .i64 x5)), (7, .fz (FV.int .i64 x7)), (8, .fz (FV.int .i64 x8)), (9, .fz (FV.int .i64 x9)), (10, .fz (FV.int .i64 x10))], [(4095, .dead)]⟩ (kBlk 3 (kSeq R k w [] A_ref03_Signs_s3 (kLoop R k w [] [0, 4, 5, 7, 8, 9] [0, 2, 3, 4, 5, 7, 8] A_ref03_Signs_b1 n)))
def X_ref03_Signs_1_1 (x0 : ByteArray) (x5 : Int) (x7 : Int) (x8 : Int) : St := ⟨[(0, .fz (FV.str x0)), (4, .nils), (5, .fz (FV.int .i64 x5)), (7, .fz (FV.int .i64 x7)), (8, .fz (FV.int .i64 x8))], [(4095, .dead)]⟩
def J_ref03_Signs_4_0 (R : Orc) (k : Nat) (w : Bool) (n : Nat) (x0 : ByteArray) (x5 : Int) (x7 : Int) (x8 : Int) := execL R k w [] A_ref03_Signs_j4 (AExit × St) ⟨[(0, .fz (FV.str x0)), (4, .nils), (5, .fz (FV.int .i64 x5)), (7, .fz (FV.int .i64 x7)), (8, .fz (FV.int .i64 x8))], [(4095, .dead)]⟩ (kBlk 1 (kLoop R k w [] [0, 4, 5] [2, 3, 4] A_ref03_Signs_b2 n))
def L_ref03_Signs_2_1 (R : Orc) (k : Nat) (w : Bool) (n : Nat) (x0 : ByteArray) (x5 : Int) (h4096 : List FV) := loopL R k w [] [0, 4, 5] [2, 3, 4] A_ref03_Signs_b2 n ⟨[(0, .fz (FV.str x0)), (4, .rw 4096), (5, .fz (FV.int .i64 x5))], [(4095, .dead), (4096, .row 1 false h4096)]⟩
def J_ref03_Signs_1_1 (R : Orc) (k : Nat) (w : Bool) (n : Nat) (x0 : ByteArray) (x5 : Int) (x6 : Int) (x7 : Int) (x8 : Int) (x25 : Bool) (h4096 : List FV) := execL R k w [] A_ref03_Signs_j1 (AExit × St) ⟨[(0, .fz (FV.str x0)), (4, .rw 4096), (5, .fz (FV.int .i64 x5)), (6, .fz (FV.int .i64 x6)), (7, .fz (FV.int .i64 x7)), (8, .fz (FV.int .i64 x8)), (25, .fz (FV.bool x25))], [(4095, .dead), (4096, .row 1 false h4096)]⟩ (kSeq R k w [] A_ref03_Signs_s8 (kBlk 1 (kLoop R k w [] [0, 4, 5] [2, 3, 4] A_ref03_Signs_b2 n)))
def X_ref03_Signs_2_2 (h4096 : List FV) : St := ⟨[(4, .rw 4096)], [(4095, .dead), (4096, .row 1 false h4096)]⟩
def J_ref03_Signs_7_1 (R : Orc) (k : Nat) (w : Bool) (n : Nat) (x0 : ByteArray) (x5 : Int) (x6 : Int) (x7 : Int) (x8 : Int) (h4096 : List FV) := execL R k w [] A_ref03_Signs_j7 (AExit × St) ⟨[(0, .fz (FV.str x0)), (4, .rw 4096), (5, .fz (FV.int .i64 x5)), (6, .fz (FV.int .i64 x6)), (7, .fz (FV.int .i64 x7)), (8, .fz (FV.int .i64 x8))], [(4095, .dead), (4096, .row 1 false h4096)]⟩ (kBlk 1 (kLoop R k w [] [0, 4, 5] [2, 3, 4] A_ref03_Signs_b2 n))
def X_ref03_Signs_2_3 (x3 : Bool) (h4096 : List FV) : St := ⟨[(2, .nils), (3, .fz (FV.bool x3)), (4, .rw 4096)], [(4095, .dead), (4096, .row 1 false h4096)]⟩
def J_ref03_Signs_6_1 (R : Orc) (k : Nat) (w : Bool) (n : Nat) (x0 : ByteArray) (x5 : Int) (x7 : Int) (x8 : Int) (h4096 : List FV) := execL R k w [] A_ref03_Signs_j6 (AExit × St) ⟨[(0, .fz (FV.str x0)), (4, .rw 4096), (5, .fz (FV.int .i64 x5)), (7, .fz (FV.int .i64 x7)), (8, .fz (FV.int .i64 x8))], [(4095, .dead), (4096, .row 1 false h4096)]⟩ (kBlk 1 (kLoop R k w [] [0, 4, 5] [2, 3, 4] A_ref03_Signs_b2 n))
def L_ref03_Signs_1_1 (R : Orc) (k : Nat) (w : Bool) (n : Nat) (x0 : ByteArray) (x5 : Int) (x7 : Int) (x8 : Int) (x9 : Int) (h4096 : List FV) := loopL R k w [] [0, 4, 5, 7, 8, 9] [0, 2, 3, 4, 5, 7, 8] A_ref03_Signs_b1 n ⟨[(0, .fz (FV.str x0)), (4, .rw 4096), (5, .fz (FV.int .i64 x5)), (7, .fz (FV.int .i64 x7)), (8, .fz (FV.int .i64 x8)), (9, .fz (FV.int .i64 x9))], [(4095, .dead), (4096, .row 1 false h4096)]⟩
def X_ref03_Signs_1_2 (x0 : ByteArray) (x3 : Bool) (x5 : Int) (x7 : Int) (x8 : Int) (h4096 : List FV) : St := ⟨[(0, .fz (FV.str x0)), (2, .nils), (3, .fz (FV.bool x3)), (4, .rw 4096), (5, .fz (FV.int .i64 x5)), (7, .fz (FV.int .i64 x7)), (8, .fz (FV.int .i64 x8))], [(4095, .dead), (4096, .row 1 false h4096)]⟩
def J_ref03_Signs_2_1 (R : Orc) (k : Nat) (w : Bool) (n : Nat) (x0 : ByteArray) (x5 : Int) (x7 : Int) (x8 : Int) (x9 : Int) (x10 : Int) (h4096 : List FV) := execL R k w [] A_ref03_Signs_j2 (AExit × St) ⟨[(0, .fz (FV.str x0)), (4, .rw 4096), (5, .fz (FV.int .i64 x5)), (7, .fz (FV.int .i64 x7)), (8, .fz (FV.int .i64 x8)), (9, .fz (FV.int .i64 x9)), (10, .fz (FV.int .i64 x10))], [(4095, .dead), (4096, .row 1 false h4096)]⟩ (kBlk 3 (kSeq R k w [] A_ref03_Signs_s3 (kLoop R k w [] [0, 4, 5, 7, 8, 9] [0, 2, 3, 4, 5, 7, 8] A_ref03_Signs_b1 n)))
def X_ref03_Signs_1_3 (x0 : ByteArray) (x5 : Int) (x7 : Int) (x8 : Int) (h4096 : List FV) : St := ⟨[(0, .fz (FV.str x0)), (4, .rw 4096), (5, .fz (FV.int .i64 x5)), (7, .fz (FV.int .i64 x7)), (8, .fz (FV.int .i64 x8))], [(4095, .dead), (4096, .row 1 false h4096)]⟩
def J_ref03_Signs_4_1 (R : Orc) (k : Nat) (w : Bool) (n : Nat) (x0 : ByteArray) (x5 : Int) (x7 : Int) (x8 : Int) (h4096 : List FV) := execL R k w [] A_ref03_Signs_j4 (AExit × St) ⟨[(0, .fz (FV.str x0)), (4, .rw 4096), (5, .fz (FV.int .i64 x5)), (7, .fz (FV.int .i64 x7)), (8, .fz (FV.int .i64 x8))], [(4095, .dead), (4096, .row 1 false h4096)]⟩ (kBlk 1 (kLoop R k w [] [0, 4, 5] [2, 3, 4] A_ref03_Signs_b2 n))
theorem E_ref03_Signs (R : Orc) (k : Nat) (w : Bool) (a0 : ByteArray) : callL R k w A_ref03_Signs [.fz (FV.str a0)] = onL (L_ref03_Signs_2_0 R k w k a0 0) (K_ref03_Signs_2 R k w) := by kernel_rfl
theorem L_ref03_Signs_2_0_eq (R : Orc) (k : Nat) (w : Bool) (n : Nat) (x0 : ByteArray) (x5 : Int) : L_ref03_Signs_2_0 R k w (n + 1) x0 x5 = ifB (decide (x5 < (ByteArray.size x0 : Int)))
  (when ((decide (0 ≤ x5)) && (decide (x5 < (ByteArray.size x0 : Int)))) (ifB (decide ((IntKind.wrap .i64 (((Array.getD (ByteArray.data x0) (Int.toNat x5) 0).toNat : Nat) : Int)) ≥ 240))
   (jump w (J_ref03_Signs_1_0 R k w n x0 x5 (IntKind.wrap .i64 (((Array.getD (ByteArray.data x0) (Int.toNat x5) 0).toNat : Nat) : Int)) 1 (IntKind.wrap .i64 (((Array.getD (ByteArray.data x0) (Int.toNat x5) 0).toNat : Nat) : Int)) (decide ((IntKind.wrap .i64 (((Array.getD (ByteArray.data x0) (Int.toNat x5) 0).toNat : Nat) : Int)) < 248))))
   (jump w (J_ref03_Signs_1_0 R k w n x0 x5 (IntKind.wrap .i64 (((Array.getD (ByteArray.data x0) (Int.toNat x5) 0).toNat : Nat) : Int)) 1 (IntKind.wrap .i64 (((Array.getD (ByteArray.data x0) (Int.toNat x5) 0).toNat : Nat) : Int)) false))))
  (some ((.exit 0), X_ref03_Signs_2_0)) := by kernel_rfl
theorem J_ref03_Signs_1_0_eq (R : Orc) (k : Nat) (w : Bool) (n : Nat) (x0 : ByteArray) (x5 : Int) (x6 : Int) (x7 : Int) (x8 : Int) (x25 : Bool) : J_ref03_Signs_1_0 R k w n x0 x5 x6 x7 x8 x25 = ifB x25
  (jump w (J_ref03_Signs_7_0 R k w n x0 x5 x6 4 (IntKind.wrap .i64 (x6 - 240))))
  (ifB (decide (x6 ≥ 224))
   (jump w (J_ref03_Signs_7_0 R k w n x0 x5 x6 3 (IntKind.wrap .i64 (x6 - 224))))
   (ifB (decide (x6 ≥ 192))
    (jump w (J_ref03_Signs_7_0 R k w n x0 x5 x6 2 (IntKind.wrap .i64 (x6 - 192))))
    (jump w (J_ref03_Signs_7_0 R k w n x0 x5 x6 x7 x8)))) := by kernel_rfl
theorem X_ref03_Signs_2_0_eq (R : Orc) (k : Nat) (w : Bool) : K_ref03_Signs_2 R k w (.exit 0) (X_ref03_Signs_2_0) = some ([.fz (FV.sl []), .fz (FV.bool true)], []) := by kernel_rfl
theorem J_ref03_Signs_7_0_eq (R : Orc) (k : Nat) (w : Bool) (n : Nat) (x0 : ByteArray) (x5 : Int) (x6 : Int) (x7 : Int) (x8 : Int) : J_ref03_Signs_7_0 R k w n x0 x5 x6 x7 x8 = ifB (decide (x6 ≥ 248))
  (some (.ret, X_ref03_Signs_2_1 false))
  (ifB (decide (x6 ≥ 128))
   (ifB (decide (x6 < 192))
    (some (.ret, X_ref03_Signs_2_1 false))
    (ifB (decide ((IntKind.wrap .i64 (x5 + x7)) > (ByteArray.size x0 : Int)))
     (some (.ret, X_ref03_Signs_2_1 false))
     (jump w (J_ref03_Signs_6_0 R k w n x0 x5 x7 x8))))
   (ifB (decide ((IntKind.wrap .i64 (x5 + x7)) > (ByteArray.size x0 : Int)))
    (some (.ret, X_ref03_Signs_2_1 false))
    (jump w (J_ref03_Signs_6_0 R k w n x0 x5 x7 x8)))) := by kernel_rfl
theorem X_ref03_Signs_2_1_eq (R : Orc) (k : Nat) (w : Bool) (x3 : Bool) : K_ref03_Signs_2 R k w .ret (X_ref03_Signs_2_1 x3) = some ([.fz (FV.sl []), .fz (FV.bool x3)], []) := by kernel_rfl
theorem J_ref03_Signs_6_0_eq (R : Orc) (k : Nat) (w : Bool) (n : Nat) (x0 : ByteArray) (x5 : Int) (x7 : Int) (x8 : Int) : J_ref03_Signs_6_0 R k w n x0 x5 x7 x8 = onL (L_ref03_Signs_1_0 R k w k x0 x5 x7 x8 1) (K_ref03_Signs_1 R k w n) := by kernel_rfl
theorem L_ref03_Signs_1_0_eq (R : Orc) (k : Nat) (w : Bool) (n : Nat) (x0 : ByteArray) (x5 : Int) (x7 : Int) (x8 : Int) (x9 : Int) : L_ref03_Signs_1_0 R k w (n + 1) x0 x5 x7 x8 x9 = ifB (decide (x9 < x7))
  (when ((decide (0 ≤ (IntKind.wrap .i64 (x5 + x9)))) && (decide ((IntKind.wrap .i64 (x5 + x9)) < (ByteArray.size x0 : Int)))) (ifB (decide ((IntKind.wrap .i64 (((Array.getD (ByteArray.data x0) (Int.toNat (IntKind.wrap .i64 (x5 + x9))) 0).toNat : Nat) : Int)) < 128))
   (some (.ret, X_ref03_Signs_1_0 x0 false x5 x7 x8))
   (ifB (decide ((IntKind.wrap .i64 (((Array.getD (ByteArray.data x0) (Int.toNat (IntKind.wrap .i64 (x5 + x9))) 0).toNat : Nat) : Int)) > 191))
    (some (.ret, X_ref03_Signs_1_0 x0 false x5 x7 x8))
    (jump w (J_ref03_Signs_2_0 R k w n x0 x5 x7 x8 x9 (IntKind.wrap .i64 (((Array.getD (ByteArray.data x0) (Int.toNat (IntKind.wrap .i64 (x5 + x9))) 0).toNat : Nat) : Int)))))))
  (some ((.exit 2), X_ref03_Signs_1_1 x0 x5 x7 x8)) := by kernel_rfl
theorem X_ref03_Signs_1_0_eq (R : Orc) (k : Nat) (w : Bool) (n : Nat) (x0 : ByteArray) (x3 : Bool) (x5 : Int) (x7 : Int) (x8 : Int) : K_ref03_Signs_1 R k w n .ret (X_ref03_Signs_1_0 x0 x3 x5 x7 x8) = some (.ret, X_ref03_Signs_2_1 x3) := by kernel_rfl
theorem J_ref03_Signs_2_0_eq (R : Orc) (k : Nat) (w : Bool) (n : Nat) (x0 : ByteArray) (x5 : Int) (x7 : Int) (x8 : Int) (x9 : Int) (x10 : Int) : J_ref03_Signs_2_0 R k w n x0 x5 x7 x8 x9 x10 = L_ref03_Signs_1_0 R k w n x0 x5 x7 (IntKind.wrap .i64 ((IntKind.wrap .i64 ((IntKind.wrap .i64 (64 * x8)) + x10)) - 128)) (IntKind.wrap .i64 (x9 + 1)) := by kernel_rfl
theorem X_ref03_Signs_1_1_eq (R : Orc) (k : Nat) (w : Bool) (n : Nat) (x0 : ByteArray) (x5 : Int) (x7 : Int) (x8 : Int) : K_ref03_Signs_1 R k w n (.exit 2) (X_ref03_Signs_1_1 x0 x5 x7 x8) = ifB (decide (x8 > 1114111))
  (some (.ret, X_ref03_Signs_2_1 false))
  (ifB (decide (x8 ≥ 55296))
   (ifB (decide (x8 < 57344))
    (some (.ret, X_ref03_Signs_2_1 false))
    (onR (R N_ref03_Put [.fz (FV.int .i64 x8)]) fun r0 => when (List.isEmpty r0.2 && allF [.fz] r0.1) (when ((FV.isSl (TV.toF (List.getD r0.1 0 TV.em))) && (List.all (FV.toSl (TV.toF (List.getD r0.1 0 TV.em))) (FV.fits 1 false))) (when (List.all (FV.toSl (TV.toF (List.getD r0.1 0 TV.em))) (FV.isInt .u8)) (when (decide (0 ≤ (IntKind.wrap .i64 (x5 + x7))) && decide ((IntKind.wrap .i64 (x5 + x7)) ≤ (ByteArray.size x0 : Int))) (when (decide (0 ≤ x5) && decide (x5 ≤ (IntKind.wrap .i64 (x5 + x7)))) (ifB (!(ByteArray.toList (⟨(List.map (fun e => UInt8.ofNat (FV.toInt e).toNat) (FV.toSl (TV.toF (List.getD r0.1 0 TV.em)))).toArray⟩ : ByteArray) == ByteArray.toList (ByteArray.extract x0 (Int.toNat x5) (Int.toNat (IntKind.wrap .i64 (x5 + x7))))))
     (some (.ret, X_ref03_Signs_2_1 false))
     (jump w (J_ref03_Signs_4_0 R k w n x0 x5 x7 x8)))))))))
   (onR (R N_ref03_Put [.fz (FV.int .i64 x8)]) fun r1 => when (List.isEmpty r1.2 && allF [.fz] r1.1) (when ((FV.isSl (TV.toF (List.getD r1.1 0 TV.em))) && (List.all (FV.toSl (TV.toF (List.getD r1.1 0 TV.em))) (FV.fits 1 false))) (when (List.all (FV.toSl (TV.toF (List.getD r1.1 0 TV.em))) (FV.isInt .u8)) (when (decide (0 ≤ (IntKind.wrap .i64 (x5 + x7))) && decide ((IntKind.wrap .i64 (x5 + x7)) ≤ (ByteArray.size x0 : Int))) (when (decide (0 ≤ x5) && decide (x5 ≤ (IntKind.wrap .i64 (x5 + x7)))) (ifB (!(ByteArray.toList (⟨(List.map (fun e => UInt8.ofNat (FV.toInt e).toNat) (FV.toSl (TV.toF (List.getD r1.1 0 TV.em)))).toArray⟩ : ByteArray) == ByteArray.toList (ByteArray.extract x0 (Int.toNat x5) (Int.toNat (IntKind.wrap .i64 (x5 + x7))))))
    (some (.ret, X_ref03_Signs_2_1 false))
    (jump w (J_ref03_Signs_4_0 R k w n x0 x5 x7 x8))))))))) := by kernel_rfl
theorem J_ref03_Signs_4_0_eq (R : Orc) (k : Nat) (w : Bool) (n : Nat) (x0 : ByteArray) (x5 : Int) (x7 : Int) (x8 : Int) : J_ref03_Signs_4_0 R k w n x0 x5 x7 x8 = when (decide (((0 : Nat) + List.length [(FV.int .i64 x8)]) * 8 ≤ roomy) && decide ((0 : Nat) + List.length [(FV.int .i64 x8)] ≤ roomy)) (L_ref03_Signs_2_1 R k w n x0 (IntKind.wrap .i64 (x5 + x7)) [(FV.int .i64 x8)]) := by kernel_rfl
theorem L_ref03_Signs_2_1_eq (R : Orc) (k : Nat) (w : Bool) (n : Nat) (x0 : ByteArray) (x5 : Int) (h4096 : List FV) : L_ref03_Signs_2_1 R k w (n + 1) x0 x5 h4096 = ifB (decide (x5 < (ByteArray.size x0 : Int)))
  (when ((decide (0 ≤ x5)) && (decide (x5 < (ByteArray.size x0 : Int)))) (ifB (decide ((IntKind.wrap .i64 (((Array.getD (ByteArray.data x0) (Int.toNat x5) 0).toNat : Nat) : Int)) ≥ 240))
   (jump w (J_ref03_Signs_1_1 R k w n x0 x5 (IntKind.wrap .i64 (((Array.getD (ByteArray.data x0) (Int.toNat x5) 0).toNat : Nat) : Int)) 1 (IntKind.wrap .i64 (((Array.getD (ByteArray.data x0) (Int.toNat x5) 0).toNat : Nat) : Int)) (decide ((IntKind.wrap .i64 (((Array.getD (ByteArray.data x0) (Int.toNat x5) 0).toNat : Nat) : Int)) < 248)) h4096))
   (jump w (J_ref03_Signs_1_1 R k w n x0 x5 (IntKind.wrap .i64 (((Array.getD (ByteArray.data x0) (Int.toNat x5) 0).toNat : Nat) : Int)) 1 (IntKind.wrap .i64 (((Array.getD (ByteArray.data x0) (Int.toNat x5) 0).toNat : Nat) : Int)) false h4096))))
  (some ((.exit 0), X_ref03_Signs_2_2 h4096)) := by kernel_rfl
theorem J_ref03_Signs_1_1_eq (R : Orc) (k : Nat) (w : Bool) (n : Nat) (x0 : ByteArray) (x5 : Int) (x6 : Int) (x7 : Int) (x8 : Int) (x25 : Bool) (h4096 : List FV) : J_ref03_Signs_1_1 R k w n x0 x5 x6 x7 x8 x25 h4096 = ifB x25
  (jump w (J_ref03_Signs_7_1 R k w n x0 x5 x6 4 (IntKind.wrap .i64 (x6 - 240)) h4096))
  (ifB (decide (x6 ≥ 224))
   (jump w (J_ref03_Signs_7_1 R k w n x0 x5 x6 3 (IntKind.wrap .i64 (x6 - 224)) h4096))
   (ifB (decide (x6 ≥ 192))
    (jump w (J_ref03_Signs_7_1 R k w n x0 x5 x6 2 (IntKind.wrap .i64 (x6 - 192)) h4096))
    (jump w (J_ref03_Signs_7_1 R k w n x0 x5 x6 x7 x8 h4096)))) := by kernel_rfl
theorem X_ref03_Signs_2_2_eq (R : Orc) (k : Nat) (w : Bool) (h4096 : List FV) : K_ref03_Signs_2 R k w (.exit 0) (X_ref03_Signs_2_2 h4096) = some ([.fz (FV.sl h4096), .fz (FV.bool true)], []) := by kernel_rfl
theorem J_ref03_Signs_7_1_eq (R : Orc) (k : Nat) (w : Bool) (n : Nat) (x0 : ByteArray) (x5 : Int) (x6 : Int) (x7 : Int) (x8 : Int) (h4096 : List FV) : J_ref03_Signs_7_1 R k w n x0 x5 x6 x7 x8 h4096 = ifB (decide (x6 ≥ 248))
  (some (.ret, X_ref03_Signs_2_3 false h4096))
  (ifB (decide (x6 ≥ 128))
   (ifB (decide (x6 < 192))
    (some (.ret, X_ref03_Signs_2_3 false h4096))
    (ifB (decide ((IntKind.wrap .i64 (x5 + x7)) > (ByteArray.size x0 : Int)))
     (some (.ret, X_ref03_Signs_2_3 false h4096))
     (jump w (J_ref03_Signs_6_1 R k w n x0 x5 x7 x8 h4096))))
   (ifB (decide ((IntKind.wrap .i64 (x5 + x7)) > (ByteArray.size x0 : Int)))
    (some (.ret, X_ref03_Signs_2_3 false h4096))
    (jump w (J_ref03_Signs_6_1 R k w n x0 x5 x7 x8 h4096)))) := by kernel_rfl
theorem X_ref03_Signs_2_3_eq (R : Orc) (k : Nat) (w : Bool) (x3 : Bool) (h4096 : List FV) : K_ref03_Signs_2 R k w .ret (X_ref03_Signs_2_3 x3 h4096) = some ([.fz (FV.sl []), .fz (FV.bool x3)], []) := by kernel_rfl
theorem J_ref03_Signs_6_1_eq (R : Orc) (k : Nat) (w : Bool) (n : Nat) (x0 : ByteArray) (x5 : Int) (x7 : Int) (x8 : Int) (h4096 : List FV) : J_ref03_Signs_6_1 R k w n x0 x5 x7 x8 h4096 = onL (L_ref03_Signs_1_1 R k w k x0 x5 x7 x8 1 h4096) (K_ref03_Signs_1 R k w n) := by kernel_rfl
theorem L_ref03_Signs_1_1_eq (R : Orc) (k : Nat) (w : Bool) (n : Nat) (x0 : ByteArray) (x5 : Int) (x7 : Int) (x8 : Int) (x9 : Int) (h4096 : List FV) : L_ref03_Signs_1_1 R k w (n + 1) x0 x5 x7 x8 x9 h4096 = ifB (decide (x9 < x7))
  (when ((decide (0 ≤ (IntKind.wrap .i64 (x5 + x9)))) && (decide ((IntKind.wrap .i64 (x5 + x9)) < (ByteArray.size x0 : Int)))) (ifB (decide ((IntKind.wrap .i64 (((Array.getD (ByteArray.data x0) (Int.toNat (IntKind.wrap .i64 (x5 + x9))) 0).toNat : Nat) : Int)) < 128))
   (some (.ret, X_ref03_Signs_1_2 x0 false x5 x7 x8 h4096))
   (ifB (decide ((IntKind.wrap .i64 (((Array.getD (ByteArray.data x0) (Int.toNat (IntKind.wrap .i64 (x5 + x9))) 0).toNat : Nat) : Int)) > 191))
    (some (.ret, X_ref03_Signs_1_2 x0 false x5 x7 x8 h4096))
    (jump w (J_ref03_Signs_2_1 R k w n x0 x5 x7 x8 x9 (IntKind.wrap .i64 (((Array.getD (ByteArray.data x0) (Int.toNat (IntKind.wrap .i64 (x5 + x9))) 0).toNat : Nat) : Int)) h4096)))))
  (some ((.exit 2), X_ref03_Signs_1_3 x0 x5 x7 x8 h4096)) := by kernel_rfl
theorem X_ref03_Signs_1_2_eq (R : Orc) (k : Nat) (w : Bool) (n : Nat) (x0 : ByteArray) (x3 : Bool) (x5 : Int) (x7 : Int) (x8 : Int) (h4096 : List FV) : K_ref03_Signs_1 R k w n .ret (X_ref03_Signs_1_2 x0 x3 x5 x7 x8 h4096) = some (.ret, X_ref03_Signs_2_3 x3 h4096) := by kernel_rfl
theorem J_ref03_Signs_2_1_eq (R : Orc) (k : Nat) (w : Bool) (n : Nat) (x0 : ByteArray) (x5 : Int) (x7 : Int) (x8 : Int) (x9 : Int) (x10 : Int) (h4096 : List FV) : J_ref03_Signs_2_1 R k w n x0 x5 x7 x8 x9 x10 h4096 = L_ref03_Signs_1_1 R k w n x0 x5 x7 (IntKind.wrap .i64 ((IntKind.wrap .i64 ((IntKind.wrap .i64 (64 * x8)) + x10)) - 128)) (IntKind.wrap .i64 (x9 + 1)) h4096 := by kernel_rfl
theorem X_ref03_Signs_1_3_eq (R : Orc) (k : Nat) (w : Bool) (n : Nat) (x0 : ByteArray) (x5 : Int) (x7 : Int) (x8 : Int) (h4096 : List FV) : K_ref03_Signs_1 R k w n (.exit 2) (X_ref03_Signs_1_3 x0 x5 x7 x8 h4096) = ifB (decide (x8 > 1114111))
  (some (.ret, X_ref03_Signs_2_3 false h4096))
  (ifB (decide (x8 ≥ 55296))
   (ifB (decide (x8 < 57344))
    (some (.ret, X_ref03_Signs_2_3 false h4096))
    (onR (R N_ref03_Put [.fz (FV.int .i64 x8)]) fun r2 => when (List.isEmpty r2.2 && allF [.fz] r2.1) (when ((FV.isSl (TV.toF (List.getD r2.1 0 TV.em))) && (List.all (FV.toSl (TV.toF (List.getD r2.1 0 TV.em))) (FV.fits 1 false))) (when (List.all (FV.toSl (TV.toF (List.getD r2.1 0 TV.em))) (FV.isInt .u8)) (when (decide (0 ≤ (IntKind.wrap .i64 (x5 + x7))) && decide ((IntKind.wrap .i64 (x5 + x7)) ≤ (ByteArray.size x0 : Int))) (when (decide (0 ≤ x5) && decide (x5 ≤ (IntKind.wrap .i64 (x5 + x7)))) (ifB (!(ByteArray.toList (⟨(List.map (fun e => UInt8.ofNat (FV.toInt e).toNat) (FV.toSl (TV.toF (List.getD r2.1 0 TV.em)))).toArray⟩ : ByteArray) == ByteArray.toList (ByteArray.extract x0 (Int.toNat x5) (Int.toNat (IntKind.wrap .i64 (x5 + x7))))))
     (some (.ret, X_ref03_Signs_2_3 false h4096))
     (jump w (J_ref03_Signs_4_1 R k w n x0 x5 x7 x8 h4096)))))))))
   (onR (R N_ref03_Put [.fz (FV.int .i64 x8)]) fun r3 => when (List.isEmpty r3.2 && allF [.fz] r3.1) (when ((FV.isSl (TV.toF (List.getD r3.1 0 TV.em))) && (List.all (FV.toSl (TV.toF (List.getD r3.1 0 TV.em))) (FV.fits 1 false))) (when (List.all (FV.toSl (TV.toF (List.getD r3.1 0 TV.em))) (FV.isInt .u8)) (when (decide (0 ≤ (IntKind.wrap .i64 (x5 + x7))) && decide ((IntKind.wrap .i64 (x5 + x7)) ≤ (ByteArray.size x0 : Int))) (when (decide (0 ≤ x5) && decide (x5 ≤ (IntKind.wrap .i64 (x5 + x7)))) (ifB (!(ByteArray.toList (⟨(List.map (fun e => UInt8.ofNat (FV.toInt e).toNat) (FV.toSl (TV.toF (List.getD r3.1 0 TV.em)))).toArray⟩ : ByteArray) == ByteArray.toList (ByteArray.extract x0 (Int.toNat x5) (Int.toNat (IntKind.wrap .i64 (x5 + x7))))))
    (some (.ret, X_ref03_Signs_2_3 false h4096))
    (jump w (J_ref03_Signs_4_1 R k w n x0 x5 x7 x8 h4096))))))))) := by kernel_rfl
theorem J_ref03_Signs_4_1_eq (R : Orc) (k : Nat) (w : Bool) (n : Nat) (x0 : ByteArray) (x5 : Int) (x7 : Int) (x8 : Int) (h4096 : List FV) : J_ref03_Signs_4_1 R k w n x0 x5 x7 x8 h4096 = when (decide ((List.length h4096 + List.length [(FV.int .i64 x8)]) * 8 ≤ roomy) && decide (List.length h4096 + List.length [(FV.int .i64 x8)] ≤ roomy)) (L_ref03_Signs_2_1 R k w n x0 (IntKind.wrap .i64 (x5 + x7)) (h4096 ++ [(FV.int .i64 x8)])) := by kernel_rfl
/-! keyhole/keyholeref04.Is -/
def A_ref04_Is_j1 : ACode := .seq (.region [⟨(some 21), .fadr 1 (.t 1), none, none⟩,
  ⟨(some 22), .load 1 false (.t 21), none, some (.int .i64)⟩,
  ⟨(some 23), .binI .eql .i64 (.t 22) (.c (.fz (.int .i64 0))), none, some .bool⟩,
  ⟨(some 24), .mov (.t 23), none, some .bool⟩,
  ⟨(some 25), .fadr 0 (.t 1), (some (24, false)), none⟩,
  ⟨(some 26), .load 1 false (.t 25), (some (24, false)), some (.int .i64)⟩,
  ⟨(some 27), .binI .rem .i64 (.t 26) (.c (.fz (.int .i64 10))), (some (24, false)), some (.int .i64)⟩,
  ⟨(some 28), .binI .neq .i64 (.t 27) (.c (.fz (.int .i64 0))), (some (24, false)), some .bool⟩,
  ⟨(some 29), .pick (.t 24) (.c (.fz (.bool true))) (.t 28), none, some .bool⟩,
  ⟨(some 2), .mov (.t 29), none, some .bool⟩])
 (.ret)
def A_ref04_Is : AFunc := ⟨1, [(.tmp 2, .fz)], .seq (.region [⟨(some 1), .box 2 true (.t 0), none, none⟩,
  ⟨(some 2), .mov (.c (.fz (.bool false))), none, some .bool⟩])
 (.seq (.seq (.region [⟨(some 3), .fadr 1 (.t 1), none, none⟩,
    ⟨(some 4), .load 1 false (.t 3), none, some (.int .i64)⟩,
    ⟨(some 5), .binI .lss .i64 (.t 4) (.c (.fz (.int .i64 0))), none, some .bool⟩,
    ⟨(some 6), .mov (.t 5), none, some .bool⟩,
    ⟨(some 7), .fadr 1 (.t 1), (some (6, false)), none⟩,
    ⟨(some 8), .load 1 false (.t 7), (some (6, false)), some (.int .i64)⟩,
    ⟨(some 9), .binI .gtr .i64 (.t 8) (.c (.fz (.int .i64 9))), (some (6, false)), some .bool⟩,
    ⟨(some 10), .pick (.t 6) (.c (.fz (.bool true))) (.t 9), none, some .bool⟩,
    ⟨(some 11), .mov (.t 10), none, some .bool⟩,
    ⟨(some 12), .fadr 0 (.t 1), (some (11, false)), none⟩,
    ⟨(some 13), .load 1 false (.t 12), (some (11, false)), some (.int .i64)⟩,
    ⟨(some 14), .binI .geq .i64 (.t 13) (.c (.fz (.int .i64 1000000000000000))), (some (11, false)), some .bool⟩,
    ⟨(some 15), .pick (.t 11) (.c (.fz (.bool true))) (.t 14), none, some .bool⟩,
    ⟨(some 16), .mov (.t 15), none, some .bool⟩,
    ⟨(some 17), .fadr 0 (.t 1), (some (16, false)), none⟩,
    ⟨(some 18), .load 1 false (.t 17), (some (16, false)), some (.int .i64)⟩,
    ⟨(some 19), .binI .leq .i64 (.t 18) (.c (.fz (.int .i64 (-1000000000000000)))), (some (16, false)), some .bool⟩,
    ⟨(some 20), .pick (.t 16) (.c (.fz (.bool true))) (.t 19), none, some .bool⟩])
   (.cond (.t 20) (.seq (.region [⟨(some 2), .mov (.c (.fz (.bool false))), none, some .bool⟩])
     (.ret))
    (.skip)))
  (.trim [1] A_ref04_Is_j1))⟩
def J_ref04_Is_1_0 (R : Orc) (k : Nat) (w : Bool) (h4096_0 : Int) (h4096_1 : Int) := execL R k w [] A_ref04_Is_j1 Ans ⟨[(1, .ptr 4096 0 0)], [(4095, .dead), (4096, .var 2 true (.fz (FV.ag [(FV.int .i64 h4096_0), (FV.int .i64 h4096_1)])))]⟩ (kFin R [(.tmp 2, .fz)] [])
theorem E_ref04_Is (R : Orc) (k : Nat) (w : Bool) (a0_0 : Int) (a0_1 : Int) : callL R k w A_ref04_Is [.fz (FV.ag [(FV.int .i64 a0_0), (FV.int .i64 a0_1)])] = ifB (decide (a0_1 < 0))
  (some ([.fz (FV.bool false)], []))
  (ifB (decide (a0_1 > 9))
   (some ([.fz (FV.bool false)], []))
   (ifB (decide (a0_0 ≥ 1000000000000000))
    (some ([.fz (FV.bool false)], []))
    (ifB (decide (a0_0 ≤ (-1000000000000000)))
     (some ([.fz (FV.bool false)], []))
     (jump w (J_ref04_Is_1_0 R k w a0_0 a0_1))))) := by kernel_rfl
theorem J_ref04_Is_1_0_eq (R : Orc) (k : Nat) (w : Bool) (h4096_0 : Int) (h4096_1 : Int) : J_ref04_Is_1_0 R k w h4096_0 h4096_1 = ifB (h4096_1 == 0)
  (some ([.fz (FV.bool true)], []))
  (some ([.fz (FV.bool ((Int.tmod h4096_0 10) != 0))], [])) := by kernel_rfl
/-! keyhole/jval.place -/
def A_jval_place_b1 : ACode := .seq (.region [⟨(some 11), .binI .lss .i64 (.t 10) (.t 9), none, none⟩])
 (.seq (.cond (.t 11) (.skip)
   (.exit 0))
  (.seq (.block 1 (.seq (.region [⟨(some 12), .mov (.t 10), none, some (.int .i64)⟩,
      ⟨(some 13), .iadr (.sl 1 false) (.t 8) (.t 10), none, none⟩,
      ⟨(some 14), .load 1 false (.t 13), none, some .str⟩,
      ⟨(some 6), .mov (.t 12), none, some (.int .i64)⟩,
      ⟨(some 7), .mov (.t 14), none, some .str⟩])
     (.seq (.region [⟨(some 15), .mov (.t 7), none, some .str⟩,
       ⟨(some 16), .mov (.t 1), none, some .str⟩,
       ⟨(some 17), .binS .geq (.t 15) (.t 16), none, some .bool⟩])
      (.cond (.t 17) (.seq (.region [⟨(some 18), .mov (.t 6), none, some (.int .i64)⟩,
         ⟨(some 19), .mov (.t 7), none, some .str⟩,
         ⟨(some 20), .mov (.t 1), none, some .str⟩,
         ⟨(some 21), .binS .eql (.t 19) (.t 20), none, some .bool⟩,
         ⟨(some 4), .mov (.t 18), none, some (.int .i64)⟩,
         ⟨(some 5), .mov (.t 21), none, some .bool⟩])
        (.ret))
       (.skip)))))
   (.region [⟨(some 22), .binI .add .i64 (.t 10) (.c (.fz (.int .i64 1))), none, some (.int .i64)⟩,
    ⟨(some 10), .mov (.t 22), none, some (.int .i64)⟩])))
def A_jval_place_s1 : ACode := .seq (.region [⟨(some 23), .mov (.t 0), none, none⟩,
  ⟨(some 24), .len (.sl 1 false) (.t 23), none, some (.int .i64)⟩,
  ⟨(some 4), .mov (.t 24), none, some (.int .i64)⟩,
  ⟨(some 5), .mov (.c (.fz (.bool false))), none, some .bool⟩])
 (.ret)
def A_jval_place : AFunc := ⟨2, [(.tmp 4, .fz), (.tmp 5, .fz)], .seq (.region [⟨(some 4), .mov (.c (.fz (.int .i64 0))), none, some (.int .i64)⟩,
  ⟨(some 5), .mov (.c (.fz (.bool false))), none, some .bool⟩])
 (.seq (.seq (.region [⟨(some 8), .mov (.t 0), none, none⟩,
    ⟨(some 9), .len (.sl 1 false) (.t 8), none, some (.int .i64)⟩,
    ⟨(some 10), .mov (.c (.fz (.int .i64 0))), none, some (.int .i64)⟩])
   (.block 0 (.loop [0, 1, 8, 9, 10] [0, 4, 5] A_jval_place_b1)))
  A_jval_place_s1)⟩
def K_jval_place_1 (R : Orc) (k : Nat) (w : Bool) : AExit → St → Option Ans := (kBlk 0 (kSeq R k w [] A_jval_place_s1 (kFin R [(.tmp 4, .fz), (.tmp 5, .fz)] [])))
def L_jval_place_1_0 (R : Orc) (k : Nat) (w : Bool) (n : Nat) (x0 : List FV) (x1 : ByteArray) (x8 : List FV) (x9 : Int) (x10 : Int) := loopL R k w [] [0, 1, 8, 9, 10] [0, 4, 5] A_jval_place_b1 n ⟨[(0, .fz (FV.sl x0)), (1, .fz (FV.str x1)), (8, .fz (FV.sl x8)), (9, .fz (FV.int .i64 x9)), (10, .fz (FV.int .i64 x10))], [(4095, .dead)]⟩
def X_jval_place_1_0 (x0 : List FV) (x4 : Int) (x5 : Bool) : St := ⟨[(0, .fz (FV.sl x0)), (4, .fz (FV.int .i64 x4)), (5, .fz (FV.bool x5))], [(4095, .dead)]⟩
def X_jval_place_1_1 (x0 : List FV) : St := ⟨[(0, .fz (FV.sl x0))], [(4095, .dead)]⟩
theorem E_jval_place (R : Orc) (k : Nat) (w : Bool) (a0 : List FV) (a1 : ByteArray) : callL R k w A_jval_place [.fz (FV.sl a0), .fz (FV.str a1)] = onL (L_jval_place_1_0 R k w k a0 a1 a0 (List.length a0 : Int) 0) (K_jval_place_1 R k w) := by kernel_rfl
theorem L_jval_place_1_0_eq (R : Orc) (k : Nat) (w : Bool) (n : Nat) (x0 : List FV) (x1 : ByteArray) (x8 : List FV) (x9 : Int) (x10 : Int) : L_jval_place_1_0 R k w (n + 1) x0 x1 x8 x9 x10 = ifB (decide (x10 < x9))
  (when ((decide (0 ≤ x10)) && (decide (x10 < (List.length x8 : Int)))) (when (FV.fits 1 false (List.getD x8 (Int.toNat x10) FV.nilp)) (when (FV.isStr (List.getD x8 (Int.toNat x10) FV.nilp)) (ifB (!(Op.bytesLess (ByteArray.toList (FV.toStr (List.getD x8 (Int.toNat x10) FV.nilp))) (ByteArray.toList x1)))
   (some (.ret, X_jval_place_1_0 x0 x10 (ByteArray.toList (FV.toStr (List.getD x8 (Int.toNat x10) FV.nilp)) == ByteArray.toList x1)))
   (L_jval_place_1_0 R k w n x0 x1 x8 x9 (IntKind.wrap .i64 (x10 + 1)))))))
  (some ((.exit 0), X_jval_place_1_1 x0)) := by kernel_rfl
theorem X_jval_place_1_0_eq (R : Orc) (k : Nat) (w : Bool) (x0 : List FV) (x4 : Int) (x5 : Bool) : K_jval_place_1 R k w .ret (X_jval_place_1_0 x0 x4 x5) = some ([.fz (FV.int .i64 x4), .fz (FV.bool x5)], []) := by kernel_rfl
theorem X_jval_place_1_1_eq (R : Orc) (k : Nat) (w : Bool) (x0 : List FV) : K_jval_place_1 R k w (.exit 0) (X_jval_place_1_1 x0) = some ([.fz (FV.int .i64 (List.length x0 : Int)), .fz (FV.bool false)], []) := by kernel_rfl
end Go.Ab
