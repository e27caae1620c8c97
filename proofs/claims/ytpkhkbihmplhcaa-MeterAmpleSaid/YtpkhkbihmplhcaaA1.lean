-- Written by a program of the session, out of the translation. Lean checks it.
import Derived.Test.YtpkhkbihmplhcaaA0
namespace Go.Ab
set_option linter.unusedVariables false
set_option maxRecDepth 100000
/-! keyhole/keyholelaw23.MeterAmple -/
def A_law23_MeterAmple_b1 : ACode := .seq (.seq (.region [⟨(some 54), .mov (.t 11), none, some (.int .i64)⟩,
   ⟨(some 55), .mov (.t 1), none, some (.int .i64)⟩,
   ⟨(some 56), .mov (.t 2), none, some (.int .i64)⟩,
   ⟨(some 57), .binI .quo .i64 (.t 55) (.t 56), none, some (.int .i64)⟩,
   ⟨(some 58), .binI .lss .i64 (.t 54) (.t 57), none, some .bool⟩])
  (.cond (.t 58) (.skip)
   (.exit 0)))
 (.seq (.block 1 (.seq (.region [⟨(some 61), .mov (.t 9), none, none⟩,
     ⟨(some 62), .mov (.t 2), none, some (.int .i64)⟩,
     ⟨(some 63), .call N_meter_Meter_Spend [((.t 61), .pv 8 true), ((.t 62), .fz)] [.fz], none, some .bool⟩,
     ⟨(some 64), .notB (.t 63), none, some .bool⟩,
     ⟨(some 65), .mov (.t 64), none, some .bool⟩,
     ⟨(some 66), .mov (.t 9), (some (65, false)), none⟩,
     ⟨(some 67), .call N_meter_Meter_Left [((.t 66), .pv 8 true)] [.fz], (some (65, false)), some (.int .i64)⟩,
     ⟨(some 68), .mov (.t 1), (some (65, false)), some (.int .i64)⟩,
     ⟨(some 69), .mov (.t 2), (some (65, false)), some (.int .i64)⟩,
     ⟨(some 70), .mov (.t 11), (some (65, false)), some (.int .i64)⟩,
     ⟨(some 71), .binI .add .i64 (.t 70) (.c (.fz (.int .i64 1))), (some (65, false)), some (.int .i64)⟩,
     ⟨(some 72), .binI .mul .i64 (.t 69) (.t 71), (some (65, false)), some (.int .i64)⟩,
     ⟨(some 73), .binI .sub .i64 (.t 68) (.t 72), (some (65, false)), some (.int .i64)⟩,
     ⟨(some 74), .binI .neq .i64 (.t 67) (.t 73), (some (65, false)), some .bool⟩,
     ⟨(some 75), .pick (.t 65) (.c (.fz (.bool true))) (.t 74), none, some .bool⟩])
    (.cond (.t 75) (.seq (.region [⟨(some 6), .mov (.c (.fz (.bool false))), none, some .bool⟩])
      (.ret))
     (.skip))))
  (.region [⟨(some 59), .mov (.t 11), none, some (.int .i64)⟩,
   ⟨(some 60), .binI .add .i64 (.t 59) (.c (.fz (.int .i64 1))), none, some (.int .i64)⟩,
   ⟨(some 11), .mov (.t 60), none, some (.int .i64)⟩]))
def A_law23_MeterAmple_s1 : ACode := .seq (.region [⟨(some 76), .mov (.t 9), none, none⟩,
  ⟨(some 77), .mov (.t 1), none, some (.int .i64)⟩,
  ⟨(some 78), .mov (.t 2), none, some (.int .i64)⟩,
  ⟨(some 79), .binI .rem .i64 (.t 77) (.t 78), none, some (.int .i64)⟩,
  ⟨(some 80), .call N_meter_Meter_Spend [((.t 76), .pv 8 true), ((.t 79), .fz)] [.fz], none, some .bool⟩,
  ⟨(some 81), .mov (.t 80), none, some .bool⟩,
  ⟨(some 82), .mov (.t 9), (some (81, true)), none⟩,
  ⟨(some 83), .call N_meter_Meter_Left [((.t 82), .pv 8 true)] [.fz], (some (81, true)), some (.int .i64)⟩,
  ⟨(some 84), .binI .eql .i64 (.t 83) (.c (.fz (.int .i64 0))), (some (81, true)), some .bool⟩,
  ⟨(some 85), .pick (.t 81) (.t 84) (.c (.fz (.bool false))), none, some .bool⟩,
  ⟨(some 86), .mov (.t 85), none, some .bool⟩,
  ⟨(some 87), .mov (.t 9), (some (86, true)), none⟩,
  ⟨(some 88), .call N_meter_Meter_Spend [((.t 87), .pv 8 true), ((.c (.fz (.int .i64 0))), .fz)] [.fz], (some (86, true)), some .bool⟩,
  ⟨(some 89), .pick (.t 86) (.t 88) (.c (.fz (.bool false))), none, some .bool⟩,
  ⟨(some 90), .mov (.t 89), none, some .bool⟩,
  ⟨(some 91), .mov (.t 9), (some (90, true)), none⟩,
  ⟨(some 92), .call N_meter_Meter_End [((.t 91), .pv 8 true)] [.fz], (some (90, true)), some (.int .i64)⟩,
  ⟨(some 93), .binI .eql .i64 (.t 92) (.c (.fz (.int .i64 0))), (some (90, true)), some .bool⟩,
  ⟨(some 94), .pick (.t 90) (.t 93) (.c (.fz (.bool false))), none, some .bool⟩,
  ⟨(some 95), .mov (.t 94), none, some .bool⟩,
  ⟨(some 96), .mov (.t 9), (some (95, true)), none⟩,
  ⟨(some 97), .call N_meter_Meter_Spend [((.t 96), .pv 8 true), ((.c (.fz (.int .i64 1))), .fz)] [.fz], (some (95, true)), some .bool⟩,
  ⟨(some 98), .notB (.t 97), (some (95, true)), some .bool⟩,
  ⟨(some 99), .pick (.t 95) (.t 98) (.c (.fz (.bool false))), none, some .bool⟩,
  ⟨(some 100), .mov (.t 99), none, some .bool⟩,
  ⟨(some 101), .mov (.t 9), (some (100, true)), none⟩,
  ⟨(some 102), .call N_meter_Meter_End [((.t 101), .pv 8 true)] [.fz], (some (100, true)), some (.int .i64)⟩,
  ⟨(some 103), .binI .eql .i64 (.t 102) (.c (.fz (.int .i64 1))), (some (100, true)), some .bool⟩,
  ⟨(some 104), .pick (.t 100) (.t 103) (.c (.fz (.bool false))), none, some .bool⟩,
  ⟨(some 105), .mov (.t 104), none, some .bool⟩,
  ⟨(some 106), .mov (.t 9), (some (105, true)), none⟩,
  ⟨(some 107), .call N_meter_Meter_Spend [((.t 106), .pv 8 true), ((.c (.fz (.int .i64 0))), .fz)] [.fz], (some (105, true)), some .bool⟩,
  ⟨(some 108), .notB (.t 107), (some (105, true)), some .bool⟩,
  ⟨(some 109), .pick (.t 105) (.t 108) (.c (.fz (.bool false))), none, some .bool⟩,
  ⟨(some 110), .mov (.t 109), none, some .bool⟩,
  ⟨(some 111), .call N_law23_lives [] [.fz], (some (110, true)), some .bool⟩,
  ⟨(some 112), .pick (.t 110) (.t 111) (.c (.fz (.bool false))), none, some .bool⟩,
  ⟨(some 6), .mov (.t 112), none, some .bool⟩])
 (.ret)
def A_law23_MeterAmple_j2 : ACode := .seq (.region [⟨(some 43), .mov (.t 7), none, none⟩,
  ⟨(some 44), .mov (.t 1), none, some (.int .i64)⟩,
  ⟨(some 45), .mov (.t 8), none, none⟩,
  ⟨(some 46), .len (.sl 1 false) (.t 45), none, some (.int .i64)⟩,
  ⟨(some 47), .binI .sub .i64 (.t 46) (.c (.fz (.int .i64 1))), none, some (.int .i64)⟩,
  ⟨(some 48), .build 3 [.fz (.int .i64 0), .fz (.int .i64 0), .fz (.bool false)] [(0, 1, false, (.t 44)), (1, 1, false, (.t 47))], none, none⟩,
  ⟨(some 49), .call N_meter_New [((.t 43), .fz), ((.t 48), .fz)] [.pv 8 true, .fz], none, none⟩,
  ⟨(some 42), .mov (.t 49), none, none⟩,
  ⟨(some 50), .extract (.t 42) 0, none, none⟩,
  ⟨(some 51), .extract (.t 42) 1, none, some (.int .i64)⟩,
  ⟨(some 9), .mov (.t 50), none, none⟩,
  ⟨(some 10), .mov (.t 51), none, some (.int .i64)⟩])
 (.seq (.seq (.region [⟨(some 52), .mov (.t 10), none, some (.int .i64)⟩,
    ⟨(some 53), .binI .neq .i64 (.t 52) (.c (.fz (.int .i64 0))), none, some .bool⟩])
   (.cond (.t 53) (.seq (.region [⟨(some 6), .mov (.c (.fz (.bool false))), none, some .bool⟩])
     (.ret))
    (.skip)))
  (.seq (.seq (.region [⟨(some 11), .mov (.c (.fz (.int .i64 0))), none, some (.int .i64)⟩])
    (.block 0 (.loop [1, 2, 9, 11] [1, 2, 6, 9] A_law23_MeterAmple_b1)))
   A_law23_MeterAmple_s1))
def A_law23_MeterAmple : AFunc := ⟨3, [(.tmp 6, .fz)], .seq (.region [⟨(some 6), .mov (.c (.fz (.bool false))), none, some .bool⟩])
 (.seq (.region [⟨(some 13), .mov (.t 0), none, some (.int .i64)⟩,
   ⟨(some 14), .call N_law23_of [((.t 13), .fz)] [.fz, .fz], none, none⟩,
   ⟨(some 12), .mov (.t 14), none, none⟩,
   ⟨(some 15), .extract (.t 12) 0, none, none⟩,
   ⟨(some 16), .extract (.t 12) 1, none, none⟩,
   ⟨(some 7), .mov (.t 15), none, none⟩,
   ⟨(some 8), .mov (.t 16), none, none⟩])
  (.seq (.seq (.region [⟨(some 17), .mov (.t 1), none, some (.int .i64)⟩,
     ⟨(some 18), .binI .lss .i64 (.t 17) (.c (.fz (.int .i64 0))), none, some .bool⟩,
     ⟨(some 19), .mov (.t 18), none, some .bool⟩,
     ⟨(some 20), .mov (.t 1), (some (19, false)), some (.int .i64)⟩,
     ⟨(some 21), .binI .gtr .i64 (.t 20) (.c (.fz (.int .i64 20000))), (some (19, false)), some .bool⟩,
     ⟨(some 22), .pick (.t 19) (.c (.fz (.bool true))) (.t 21), none, some .bool⟩,
     ⟨(some 23), .mov (.t 22), none, some .bool⟩,
     ⟨(some 24), .mov (.t 2), (some (23, false)), some (.int .i64)⟩,
     ⟨(some 25), .binI .lss .i64 (.t 24) (.c (.fz (.int .i64 1))), (some (23, false)), some .bool⟩,
     ⟨(some 26), .pick (.t 23) (.c (.fz (.bool true))) (.t 25), none, some .bool⟩,
     ⟨(some 27), .mov (.t 26), none, some .bool⟩,
     ⟨(some 28), .mov (.t 2), (some (27, false)), some (.int .i64)⟩,
     ⟨(some 29), .binI .gtr .i64 (.t 28) (.c (.fz (.int .i64 20000))), (some (27, false)), some .bool⟩,
     ⟨(some 30), .pick (.t 27) (.c (.fz (.bool true))) (.t 29), none, some .bool⟩,
     ⟨(some 31), .mov (.t 30), none, some .bool⟩,
     ⟨(some 32), .mov (.t 1), (some (31, false)), some (.int .i64)⟩,
     ⟨(some 33), .mov (.t 2), (some (31, false)), some (.int .i64)⟩,
     ⟨(some 34), .binI .quo .i64 (.t 32) (.t 33), (some (31, false)), some (.int .i64)⟩,
     ⟨(some 35), .binI .gtr .i64 (.t 34) (.c (.fz (.int .i64 3000))), (some (31, false)), some .bool⟩,
     ⟨(some 36), .pick (.t 31) (.c (.fz (.bool true))) (.t 35), none, some .bool⟩,
     ⟨(some 37), .mov (.t 36), none, some .bool⟩,
     ⟨(some 38), .mov (.t 7), (some (37, false)), none⟩,
     ⟨(some 39), .eqNil false (.t 38), (some (37, false)), some .bool⟩,
     ⟨(some 40), .pick (.t 37) (.c (.fz (.bool true))) (.t 39), none, some .bool⟩])
    (.cond (.t 40) (.seq (.region [⟨(some 41), .call N_law23_lives [] [.fz], none, some .bool⟩,
       ⟨(some 6), .mov (.t 41), none, some .bool⟩])
      (.ret))
     (.skip)))
   (.trim [1, 2, 7, 8] A_law23_MeterAmple_j2)))⟩
def J_law23_MeterAmple_2_0 (R : Orc) (k : Nat) (w : Bool) (x1 : Int) (x2 : Int) (x7 : FV) (x8 : FV) := execL R k w [] A_law23_MeterAmple_j2 Ans ⟨[(1, .fz (FV.int .i64 x1)), (2, .fz (FV.int .i64 x2)), (7, .fz x7), (8, .fz x8)], [(4095, .dead)]⟩ (kFin R [(.tmp 6, .fz)] [])
def K_law23_MeterAmple_1 (R : Orc) (k : Nat) (w : Bool) : AExit → St → Option Ans := (kBlk 0 (kSeq R k w [] A_law23_MeterAmple_s1 (kFin R [(.tmp 6, .fz)] [])))
def L_law23_MeterAmple_1_0 (R : Orc) (k : Nat) (w : Bool) (n : Nat) (x1 : Int) (x2 : Int) (x11 : Int) := loopL R k w [] [1, 2, 9, 11] [1, 2, 6, 9] A_law23_MeterAmple_b1 n ⟨[(1, .fz (FV.int .i64 x1)), (2, .fz (FV.int .i64 x2)), (9, .fz FV.nilp), (11, .fz (FV.int .i64 x11))], [(4095, .dead)]⟩
def L_law23_MeterAmple_1_1 (R : Orc) (k : Nat) (w : Bool) (n : Nat) (x1 : Int) (x2 : Int) (x11 : Int) (h4096 : FV) := loopL R k w [] [1, 2, 9, 11] [1, 2, 6, 9] A_law23_MeterAmple_b1 n ⟨[(1, .fz (FV.int .i64 x1)), (2, .fz (FV.int .i64 x2)), (9, .ptr 4096 0 0), (11, .fz (FV.int .i64 x11))], [(4095, .dead), (4096, .var 8 true (.fz h4096))]⟩
def X_law23_MeterAmple_1_0 (x1 : Int) (x2 : Int) (x6 : Bool) : St := ⟨[(1, .fz (FV.int .i64 x1)), (2, .fz (FV.int .i64 x2)), (6, .fz (FV.bool x6)), (9, .fz FV.nilp)], [(4095, .dead)]⟩
def X_law23_MeterAmple_1_1 (x1 : Int) (x2 : Int) : St := ⟨[(1, .fz (FV.int .i64 x1)), (2, .fz (FV.int .i64 x2)), (9, .fz FV.nilp)], [(4095, .dead)]⟩
def X_law23_MeterAmple_1_2 (x1 : Int) (x2 : Int) (x6 : Bool) (h4096 : FV) : St := ⟨[(1, .fz (FV.int .i64 x1)), (2, .fz (FV.int .i64 x2)), (6, .fz (FV.bool x6)), (9, .ptr 4096 0 0)], [(4095, .dead), (4096, .var 8 true (.fz h4096))]⟩
def X_law23_MeterAmple_1_3 (x1 : Int) (x2 : Int) (h4096 : FV) : St := ⟨[(1, .fz (FV.int .i64 x1)), (2, .fz (FV.int .i64 x2)), (9, .ptr 4096 0 0)], [(4095, .dead), (4096, .var 8 true (.fz h4096))]⟩
theorem E_law23_MeterAmple (R : Orc) (k : Nat) (w : Bool) (a0 : Int) (a1 : Int) (a2 : Int) : callL R k w A_law23_MeterAmple [.fz (FV.int .i64 a0), .fz (FV.int .i64 a1), .fz (FV.int .i64 a2)] = onR (R N_law23_of [.fz (FV.int .i64 a0)]) fun r0 => when (List.isEmpty r0.2 && allF [.fz, .fz] r0.1) (ifB (decide (a1 < 0))
  (onR (R N_law23_lives []) fun r1 => when (List.isEmpty r1.2 && allF [.fz] r1.1) (when (FV.isBool (TV.toF (List.getD r1.1 0 TV.em))) (some ([.fz (FV.bool (FV.toBool (TV.toF (List.getD r1.1 0 TV.em))))], []))))
  (ifB (decide (a1 > 20000))
   (onR (R N_law23_lives []) fun r2 => when (List.isEmpty r2.2 && allF [.fz] r2.1) (when (FV.isBool (TV.toF (List.getD r2.1 0 TV.em))) (some ([.fz (FV.bool (FV.toBool (TV.toF (List.getD r2.1 0 TV.em))))], []))))
   (ifB (decide (a2 < 1))
    (onR (R N_law23_lives []) fun r3 => when (List.isEmpty r3.2 && allF [.fz] r3.1) (when (FV.isBool (TV.toF (List.getD r3.1 0 TV.em))) (some ([.fz (FV.bool (FV.toBool (TV.toF (List.getD r3.1 0 TV.em))))], []))))
    (ifB (decide (a2 > 20000))
     (onR (R N_law23_lives []) fun r4 => when (List.isEmpty r4.2 && allF [.fz] r4.1) (when (FV.isBool (TV.toF (List.getD r4.1 0 TV.em))) (some ([.fz (FV.bool (FV.toBool (TV.toF (List.getD r4.1 0 TV.em))))], []))))
     (when (!decide (a2 = 0)) (ifB (decide ((IntKind.wrap .i64 (Int.tdiv a1 a2)) > 3000))
      (onR (R N_law23_lives []) fun r5 => when (List.isEmpty r5.2 && allF [.fz] r5.1) (when (FV.isBool (TV.toF (List.getD r5.1 0 TV.em))) (some ([.fz (FV.bool (FV.toBool (TV.toF (List.getD r5.1 0 TV.em))))], []))))
      (when (FV.isPt (TV.toF (List.getD r0.1 0 TV.em)) || FV.isNil (TV.toF (List.getD r0.1 0 TV.em))) (ifB (FV.isNil (TV.toF (List.getD r0.1 0 TV.em)))
       (onR (R N_law23_lives []) fun r6 => when (List.isEmpty r6.2 && allF [.fz] r6.1) (when (FV.isBool (TV.toF (List.getD r6.1 0 TV.em))) (some ([.fz (FV.bool (FV.toBool (TV.toF (List.getD r6.1 0 TV.em))))], []))))
       (jump w (J_law23_MeterAmple_2_0 R k w a1 a2 (TV.toF (List.getD r0.1 0 TV.em)) (TV.toF (List.getD r0.1 1 TV.em)))))))))))) := by kernel_rfl
theorem J_law23_MeterAmple_2_0_eq (R : Orc) (k : Nat) (w : Bool) (x1 : Int) (x2 : Int) (x7 : FV) (x8 : FV) : J_law23_MeterAmple_2_0 R k w x1 x2 x7 x8 = when (FV.isSl x8) (onR (R N_meter_New [.fz x7, .fz (FV.ag [(FV.int .i64 x1), (FV.int .i64 (IntKind.wrap .i64 ((List.length (FV.toSl x8) : Int) - 1))), (FV.bool false)])]) fun r7 => when (List.length r7.2 == 0 && (List.all r7.2 LV.isFz && List.length r7.1 == 2)) (ifB (TV.isF (List.getD r7.1 0 TV.em))
  (when (FV.isNil (TV.toF (List.getD r7.1 0 TV.em))) (when (TV.isF (List.getD r7.1 1 TV.em)) (when (FV.isInt .i64 (TV.toF (List.getD r7.1 1 TV.em))) (ifB ((FV.toInt (TV.toF (List.getD r7.1 1 TV.em))) != 0)
   (some ([.fz (FV.bool false)], []))
   (onL (L_law23_MeterAmple_1_0 R k w k x1 x2 0) (K_law23_MeterAmple_1 R k w))))))
  (when (TV.isPv 8 true (List.getD r7.1 0 TV.em)) (when (TV.isF (List.getD r7.1 1 TV.em)) (when (FV.isInt .i64 (TV.toF (List.getD r7.1 1 TV.em))) (ifB ((FV.toInt (TV.toF (List.getD r7.1 1 TV.em))) != 0)
   (some ([.fz (FV.bool false)], []))
   (onL (L_law23_MeterAmple_1_1 R k w k x1 x2 0 (TV.toV (List.getD r7.1 0 TV.em))) (K_law23_MeterAmple_1 R k w)))))))) := by kernel_rfl
theorem L_law23_MeterAmple_1_0_eq (R : Orc) (k : Nat) (w : Bool) (n : Nat) (x1 : Int) (x2 : Int) (x11 : Int) : L_law23_MeterAmple_1_0 R k w (n + 1) x1 x2 x11 = when (!decide (x2 = 0)) (ifB (decide (x11 < (IntKind.wrap .i64 (Int.tdiv x1 x2))))
  (onR (R N_meter_Meter_Spend [.fz .nilp, .fz (FV.int .i64 x2)]) fun r8 => when (List.isEmpty r8.2 && allF [.fz] r8.1) (when (FV.isBool (TV.toF (List.getD r8.1 0 TV.em))) (ifB (!(FV.toBool (TV.toF (List.getD r8.1 0 TV.em))))
   (some (.ret, X_law23_MeterAmple_1_0 x1 x2 false))
   (onR (R N_meter_Meter_Left [.fz .nilp]) fun r9 => when (List.isEmpty r9.2 && allF [.fz] r9.1) (when (FV.isInt .i64 (TV.toF (List.getD r9.1 0 TV.em))) (ifB ((FV.toInt (TV.toF (List.getD r9.1 0 TV.em))) != (IntKind.wrap .i64 (x1 - (IntKind.wrap .i64 (x2 * (IntKind.wrap .i64 (x11 + 1)))))))
    (some (.ret, X_law23_MeterAmple_1_0 x1 x2 false))
    (L_law23_MeterAmple_1_0 R k w n x1 x2 (IntKind.wrap .i64 (x11 + 1)))))))))
  (some ((.exit 0), X_law23_MeterAmple_1_1 x1 x2))) := by kernel_rfl
theorem L_law23_MeterAmple_1_1_eq (R : Orc) (k : Nat) (w : Bool) (n : Nat) (x1 : Int) (x2 : Int) (x11 : Int) (h4096 : FV) : L_law23_MeterAmple_1_1 R k w (n + 1) x1 x2 x11 h4096 = when (!decide (x2 = 0)) (ifB (decide (x11 < (IntKind.wrap .i64 (Int.tdiv x1 x2))))
  (onR (R N_meter_Meter_Spend [.pv 8 true (.fz h4096), .fz (FV.int .i64 x2)]) fun r10 => when (List.length r10.2 == 1 && (List.all r10.2 LV.isFz && List.length r10.1 == 1)) (when (TV.isF (List.getD r10.1 0 TV.em)) (when (FV.isBool (TV.toF (List.getD r10.1 0 TV.em))) (ifB (!(FV.toBool (TV.toF (List.getD r10.1 0 TV.em))))
   (some (.ret, X_law23_MeterAmple_1_2 x1 x2 false (LV.toFz (List.getD r10.2 0 LV.nils))))
   (onR (R N_meter_Meter_Left [.pv 8 true (.fz (LV.toFz (List.getD r10.2 0 LV.nils)))]) fun r11 => when (List.length r11.2 == 1 && (List.all r11.2 LV.isFz && List.length r11.1 == 1)) (when (TV.isF (List.getD r11.1 0 TV.em)) (when (FV.isInt .i64 (TV.toF (List.getD r11.1 0 TV.em))) (ifB ((FV.toInt (TV.toF (List.getD r11.1 0 TV.em))) != (IntKind.wrap .i64 (x1 - (IntKind.wrap .i64 (x2 * (IntKind.wrap .i64 (x11 + 1)))))))
    (some (.ret, X_law23_MeterAmple_1_2 x1 x2 false (LV.toFz (List.getD r11.2 0 LV.nils))))
    (L_law23_MeterAmple_1_1 R k w n x1 x2 (IntKind.wrap .i64 (x11 + 1)) (LV.toFz (List.getD r11.2 0 LV.nils)))))))))))
  (some ((.exit 0), X_law23_MeterAmple_1_3 x1 x2 h4096))) := by kernel_rfl
theorem X_law23_MeterAmple_1_0_eq (R : Orc) (k : Nat) (w : Bool) (x1 : Int) (x2 : Int) (x6 : Bool) : K_law23_MeterAmple_1 R k w .ret (X_law23_MeterAmple_1_0 x1 x2 x6) = some ([.fz (FV.bool x6)], []) := by kernel_rfl
theorem X_law23_MeterAmple_1_1_eq (R : Orc) (k : Nat) (w : Bool) (x1 : Int) (x2 : Int) : K_law23_MeterAmple_1 R k w (.exit 0) (X_law23_MeterAmple_1_1 x1 x2) = when (!decide (x2 = 0)) (onR (R N_meter_Meter_Spend [.fz .nilp, .fz (FV.int .i64 (Int.tmod x1 x2))]) fun r12 => when (List.isEmpty r12.2 && allF [.fz] r12.1) (when (FV.isBool (TV.toF (List.getD r12.1 0 TV.em))) (ifB (FV.toBool (TV.toF (List.getD r12.1 0 TV.em)))
  (onR (R N_meter_Meter_Left [.fz .nilp]) fun r13 => when (List.isEmpty r13.2 && allF [.fz] r13.1) (when (FV.isInt .i64 (TV.toF (List.getD r13.1 0 TV.em))) (ifB ((FV.toInt (TV.toF (List.getD r13.1 0 TV.em))) == 0)
   (onR (R N_meter_Meter_Spend [.fz .nilp, .fz (FV.int .i64 0)]) fun r14 => when (List.isEmpty r14.2 && allF [.fz] r14.1) (when (FV.isBool (TV.toF (List.getD r14.1 0 TV.em))) (ifB (FV.toBool (TV.toF (List.getD r14.1 0 TV.em)))
    (onR (R N_meter_Meter_End [.fz .nilp]) fun r15 => when (List.isEmpty r15.2 && allF [.fz] r15.1) (when (FV.isInt .i64 (TV.toF (List.getD r15.1 0 TV.em))) (ifB ((FV.toInt (TV.toF (List.getD r15.1 0 TV.em))) == 0)
     (onR (R N_meter_Meter_Spend [.fz .nilp, .fz (FV.int .i64 1)]) fun r16 => when (List.isEmpty r16.2 && allF [.fz] r16.1) (when (FV.isBool (TV.toF (List.getD r16.1 0 TV.em))) (ifB (!(FV.toBool (TV.toF (List.getD r16.1 0 TV.em))))
      (onR (R N_meter_Meter_End [.fz .nilp]) fun r17 => when (List.isEmpty r17.2 && allF [.fz] r17.1) (when (FV.isInt .i64 (TV.toF (List.getD r17.1 0 TV.em))) (ifB ((FV.toInt (TV.toF (List.getD r17.1 0 TV.em))) == 1)
       (onR (R N_meter_Meter_Spend [.fz .nilp, .fz (FV.int .i64 0)]) fun r18 => when (List.isEmpty r18.2 && allF [.fz] r18.1) (when (FV.isBool (TV.toF (List.getD r18.1 0 TV.em))) (ifB (!(FV.toBool (TV.toF (List.getD r18.1 0 TV.em))))
        (onR (R N_law23_lives []) fun r19 => when (List.isEmpty r19.2 && allF [.fz] r19.1) (when (FV.isBool (TV.toF (List.getD r19.1 0 TV.em))) (some ([.fz (FV.bool (FV.toBool (TV.toF (List.getD r19.1 0 TV.em))))], []))))
        (some ([.fz (FV.bool false)], [])))))
       (some ([.fz (FV.bool false)], [])))))
      (some ([.fz (FV.bool false)], [])))))
     (some ([.fz (FV.bool false)], [])))))
    (some ([.fz (FV.bool false)], [])))))
   (some ([.fz (FV.bool false)], [])))))
  (some ([.fz (FV.bool false)], []))))) := by kernel_rfl
theorem X_law23_MeterAmple_1_2_eq (R : Orc) (k : Nat) (w : Bool) (x1 : Int) (x2 : Int) (x6 : Bool) (h4096 : FV) : K_law23_MeterAmple_1 R k w .ret (X_law23_MeterAmple_1_2 x1 x2 x6 h4096) = some ([.fz (FV.bool x6)], []) := by kernel_rfl
theorem X_law23_MeterAmple_1_3_eq (R : Orc) (k : Nat) (w : Bool) (x1 : Int) (x2 : Int) (h4096 : FV) : K_law23_MeterAmple_1 R k w (.exit 0) (X_law23_MeterAmple_1_3 x1 x2 h4096) = when (!decide (x2 = 0)) (onR (R N_meter_Meter_Spend [.pv 8 true (.fz h4096), .fz (FV.int .i64 (Int.tmod x1 x2))]) fun r20 => when (List.length r20.2 == 1 && (List.all r20.2 LV.isFz && List.length r20.1 == 1)) (when (TV.isF (List.getD r20.1 0 TV.em)) (when (FV.isBool (TV.toF (List.getD r20.1 0 TV.em))) (ifB (FV.toBool (TV.toF (List.getD r20.1 0 TV.em)))
  (onR (R N_meter_Meter_Left [.pv 8 true (.fz (LV.toFz (List.getD r20.2 0 LV.nils)))]) fun r21 => when (List.length r21.2 == 1 && (List.all r21.2 LV.isFz && List.length r21.1 == 1)) (when (TV.isF (List.getD r21.1 0 TV.em)) (when (FV.isInt .i64 (TV.toF (List.getD r21.1 0 TV.em))) (ifB ((FV.toInt (TV.toF (List.getD r21.1 0 TV.em))) == 0)
   (onR (R N_meter_Meter_Spend [.pv 8 true (.fz (LV.toFz (List.getD r21.2 0 LV.nils))), .fz (FV.int .i64 0)]) fun r22 => when (List.length r22.2 == 1 && (List.all r22.2 LV.isFz && List.length r22.1 == 1)) (when (TV.isF (List.getD r22.1 0 TV.em)) (when (FV.isBool (TV.toF (List.getD r22.1 0 TV.em))) (ifB (FV.toBool (TV.toF (List.getD r22.1 0 TV.em)))
    (onR (R N_meter_Meter_End [.pv 8 true (.fz (LV.toFz (List.getD r22.2 0 LV.nils)))]) fun r23 => when (List.length r23.2 == 1 && (List.all r23.2 LV.isFz && List.length r23.1 == 1)) (when (TV.isF (List.getD r23.1 0 TV.em)) (when (FV.isInt .i64 (TV.toF (List.getD r23.1 0 TV.em))) (ifB ((FV.toInt (TV.toF (List.getD r23.1 0 TV.em))) == 0)
     (onR (R N_meter_Meter_Spend [.pv 8 true (.fz (LV.toFz (List.getD r23.2 0 LV.nils))), .fz (FV.int .i64 1)]) fun r24 => when (List.length r24.2 == 1 && (List.all r24.2 LV.isFz && List.length r24.1 == 1)) (when (TV.isF (List.getD r24.1 0 TV.em)) (when (FV.isBool (TV.toF (List.getD r24.1 0 TV.em))) (ifB (!(FV.toBool (TV.toF (List.getD r24.1 0 TV.em))))
      (onR (R N_meter_Meter_End [.pv 8 true (.fz (LV.toFz (List.getD r24.2 0 LV.nils)))]) fun r25 => when (List.length r25.2 == 1 && (List.all r25.2 LV.isFz && List.length r25.1 == 1)) (when (TV.isF (List.getD r25.1 0 TV.em)) (when (FV.isInt .i64 (TV.toF (List.getD r25.1 0 TV.em))) (ifB ((FV.toInt (TV.toF (List.getD r25.1 0 TV.em))) == 1)
       (onR (R N_meter_Meter_Spend [.pv 8 true (.fz (LV.toFz (List.getD r25.2 0 LV.nils))), .fz (FV.int .i64 0)]) fun r26 => when (List.length r26.2 == 1 && (List.all r26.2 LV.isFz && List.length r26.1 == 1)) (when (TV.isF (List.getD r26.1 0 TV.em)) (when (FV.isBool (TV.toF (List.getD r26.1 0 TV.em))) (ifB (!(FV.toBool (TV.toF (List.getD r26.1 0 TV.em))))
        (onR (R N_law23_lives []) fun r27 => when (List.isEmpty r27.2 && allF [.fz] r27.1) (when (FV.isBool (TV.toF (List.getD r27.1 0 TV.em))) (some ([.fz (FV.bool (FV.toBool (TV.toF (List.getD r27.1 0 TV.em))))], []))))
        (some ([.fz (FV.bool false)], []))))))
       (some ([.fz (FV.bool false)], []))))))
      (some ([.fz (FV.bool false)], []))))))
     (some ([.fz (FV.bool false)], []))))))
    (some ([.fz (FV.bool false)], []))))))
   (some ([.fz (FV.bool false)], []))))))
  (some ([.fz (FV.bool false)], [])))))) := by kernel_rfl
/-! keyhole/keyholelaw23.MeterNew -/
def A_law23_MeterNew_j1 : ACode := .seq (.seq (.region [⟨(some 81), .mov (.t 8), none, some (.int .i64)⟩,
   ⟨(some 82), .binI .neq .i64 (.t 81) (.c (.fz (.int .i64 0))), none, some .bool⟩])
  (.cond (.t 82) (.seq (.region [⟨(some 83), .mov (.t 7), none, none⟩,
     ⟨(some 84), .eqNil false (.t 83), none, some .bool⟩,
     ⟨(some 85), .mov (.t 84), none, some .bool⟩,
     ⟨(some 86), .call N_law23_lives [] [.fz], (some (85, true)), some .bool⟩,
     ⟨(some 87), .pick (.t 85) (.t 86) (.c (.fz (.bool false))), none, some .bool⟩,
     ⟨(some 4), .mov (.t 87), none, some .bool⟩])
    (.ret))
   (.skip)))
 (.seq (.draws [⟨⟨(some 88), .mov (.t 7), none, none⟩, []⟩,
   ⟨⟨(some 89), .call N_meter_Meter_End [((.t 88), .pv 8 true)] [.fz], none, some (.int .i64)⟩, [0]⟩,
   ⟨⟨(some 90), .binI .eql .i64 (.t 89) (.c (.fz (.int .i64 0))), none, some .bool⟩, [1]⟩,
   ⟨⟨(some 91), .mov (.t 90), none, some .bool⟩, [2, 1]⟩,
   ⟨⟨(some 92), .mov (.t 7), (some (91, true)), none⟩, [3]⟩,
   ⟨⟨(some 93), .call N_meter_Meter_Left [((.t 92), .pv 8 true)] [.fz], (some (91, true)), some (.int .i64)⟩, [4, 3, 3]⟩,
   ⟨⟨(some 94), .fadr 0 (.t 3), (some (91, true)), none⟩, [3]⟩,
   ⟨⟨(some 95), .load 1 false (.t 94), (some (91, true)), some (.int .i64)⟩, [6, 3]⟩,
   ⟨⟨(some 96), .binI .eql .i64 (.t 93) (.t 95), (some (91, true)), some .bool⟩, [5, 7, 3]⟩,
   ⟨⟨(some 97), .pick (.t 91) (.t 96) (.c (.fz (.bool false))), none, some .bool⟩, [3, 8]⟩,
   ⟨⟨(some 98), .mov (.t 97), none, some .bool⟩, [9, 5]⟩,
   ⟨⟨(some 99), .mov (.t 7), (some (98, true)), none⟩, [10]⟩,
   ⟨⟨(some 100), .call N_meter_Meter_Label [((.t 99), .pv 8 true)] [.fz], (some (98, true)), some (.int .i64)⟩, [11, 10, 10]⟩,
   ⟨⟨(some 101), .mov (.t 6), (some (98, true)), none⟩, [10]⟩,
   ⟨⟨(some 102), .call N_ref09_Bottom [((.t 101), .fz)] [.fz], (some (98, true)), some (.int .i64)⟩, [13, 12, 10]⟩,
   ⟨⟨(some 103), .binI .eql .i64 (.t 100) (.t 102), (some (98, true)), some .bool⟩, [12, 14, 10]⟩,
   ⟨⟨(some 104), .pick (.t 98) (.t 103) (.c (.fz (.bool false))), none, some .bool⟩, [10, 15]⟩,
   ⟨⟨(some 105), .mov (.t 104), none, some .bool⟩, [16, 14]⟩,
   ⟨⟨(some 106), .call N_law23_lives [] [.fz], (some (105, true)), some .bool⟩, [17, 17]⟩,
   ⟨⟨(some 107), .pick (.t 105) (.t 106) (.c (.fz (.bool false))), none, some .bool⟩, [17, 18]⟩,
   ⟨⟨(some 4), .mov (.t 107), none, some .bool⟩, [19, 18, 0, 1, 2, 3, 4, 5, 6, 7, 8, 9, 10, 11, 12, 13, 14, 15, 16, 17, 18, 19]⟩])
  (.ret))
def A_law23_MeterNew_j2 : ACode := .seq (.region [⟨(some 12), .mov (.c (.fz (.nilp))), none, none⟩])
 (.seq (.seq (.region [⟨(some 47), .mov (.t 12), none, none⟩,
    ⟨(some 48), .call N_meter_Meter_Spend [((.t 47), .pv 8 true), ((.c (.fz (.int .i64 0))), .fz)] [.fz], none, some .bool⟩,
    ⟨(some 49), .mov (.t 48), none, some .bool⟩,
    ⟨(some 50), .mov (.t 12), (some (49, false)), none⟩,
    ⟨(some 51), .call N_meter_Meter_Raise [((.t 50), .pv 8 true), ((.c (.fz (.int .i64 0))), .fz)] [.fz], (some (49, false)), some .bool⟩,
    ⟨(some 52), .pick (.t 49) (.c (.fz (.bool true))) (.t 51), none, some .bool⟩,
    ⟨(some 53), .mov (.t 52), none, some .bool⟩,
    ⟨(some 54), .mov (.t 12), (some (53, false)), none⟩,
    ⟨(some 55), .call N_meter_Meter_Tell [((.t 54), .pv 8 true)] [.fz], (some (53, false)), some .bool⟩,
    ⟨(some 56), .pick (.t 53) (.c (.fz (.bool true))) (.t 55), none, some .bool⟩,
    ⟨(some 57), .mov (.t 56), none, some .bool⟩,
    ⟨(some 58), .mov (.t 12), (some (57, false)), none⟩,
    ⟨(some 59), .call N_meter_Meter_End [((.t 58), .pv 8 true)] [.fz], (some (57, false)), some (.int .i64)⟩,
    ⟨(some 60), .binI .neq .i64 (.t 59) (.c (.fz (.int .i64 0))), (some (57, false)), some .bool⟩,
    ⟨(some 61), .pick (.t 57) (.c (.fz (.bool true))) (.t 60), none, some .bool⟩,
    ⟨(some 62), .mov (.t 61), none, some .bool⟩,
    ⟨(some 63), .mov (.t 12), (some (62, false)), none⟩,
    ⟨(some 64), .call N_meter_Meter_Label [((.t 63), .pv 8 true)] [.fz], (some (62, false)), some (.int .i64)⟩,
    ⟨(some 65), .binI .neq .i64 (.t 64) (.c (.fz (.int .i64 0))), (some (62, false)), some .bool⟩,
    ⟨(some 66), .pick (.t 62) (.c (.fz (.bool true))) (.t 65), none, some .bool⟩,
    ⟨(some 67), .mov (.t 66), none, some .bool⟩,
    ⟨(some 68), .mov (.t 12), (some (67, false)), none⟩,
    ⟨(some 69), .call N_meter_Meter_Left [((.t 68), .pv 8 true)] [.fz], (some (67, false)), some (.int .i64)⟩,
    ⟨(some 70), .binI .neq .i64 (.t 69) (.c (.fz (.int .i64 0))), (some (67, false)), some .bool⟩,
    ⟨(some 71), .pick (.t 67) (.c (.fz (.bool true))) (.t 70), none, some .bool⟩,
    ⟨(some 72), .mov (.t 71), none, some .bool⟩,
    ⟨(some 73), .mov (.t 10), (some (72, false)), some (.int .i64)⟩,
    ⟨(some 74), .binI .neq .i64 (.t 73) (.c (.fz (.int .i64 1))), (some (72, false)), some .bool⟩,
    ⟨(some 75), .pick (.t 72) (.c (.fz (.bool true))) (.t 74), none, some .bool⟩,
    ⟨(some 76), .mov (.t 75), none, some .bool⟩,
    ⟨(some 77), .mov (.t 8), (some (76, false)), some (.int .i64)⟩,
    ⟨(some 78), .mov (.t 11), (some (76, false)), some (.int .i64)⟩,
    ⟨(some 79), .binI .neq .i64 (.t 77) (.t 78), (some (76, false)), some .bool⟩,
    ⟨(some 80), .pick (.t 76) (.c (.fz (.bool true))) (.t 79), none, some .bool⟩])
   (.cond (.t 80) (.seq (.region [⟨(some 4), .mov (.c (.fz (.bool false))), none, some .bool⟩])
     (.ret))
    (.skip)))
  (.trim [3, 6, 7, 8] A_law23_MeterNew_j1))
def A_law23_MeterNew_j3 : ACode := .seq (.seq (.region [⟨(some 39), .fadr 0 (.t 3), none, none⟩,
   ⟨(some 40), .load 1 false (.t 39), none, some (.int .i64)⟩,
   ⟨(some 41), .binI .lss .i64 (.t 40) (.c (.fz (.int .i64 0))), none, some .bool⟩,
   ⟨(some 42), .mov (.t 41), none, some .bool⟩,
   ⟨(some 43), .fadr 0 (.t 3), (some (42, false)), none⟩,
   ⟨(some 44), .load 1 false (.t 43), (some (42, false)), some (.int .i64)⟩,
   ⟨(some 45), .binI .gtr .i64 (.t 44) (.c (.fz (.int .i64 20000))), (some (42, false)), some .bool⟩,
   ⟨(some 46), .pick (.t 42) (.c (.fz (.bool true))) (.t 45), none, some .bool⟩])
  (.cond (.t 46) (.region [⟨(some 11), .mov (.c (.fz (.int .i64 2))), none, some (.int .i64)⟩])
   (.skip)))
 (.trim [3, 6, 7, 8, 10, 11] A_law23_MeterNew_j2)
def A_law23_MeterNew : AFunc := ⟨2, [(.tmp 4, .fz)], .seq (.region [⟨(some 3), .box 3 true (.t 1), none, none⟩,
  ⟨(some 4), .mov (.c (.fz (.bool false))), none, some .bool⟩])
 (.seq (.region [⟨(some 14), .mov (.t 0), none, some (.int .i64)⟩,
   ⟨(some 15), .call N_law23_of [((.t 14), .fz)] [.fz, .fz], none, none⟩,
   ⟨(some 13), .mov (.t 15), none, none⟩,
   ⟨(some 16), .extract (.t 13) 0, none, none⟩,
   ⟨(some 17), .extract (.t 13) 1, none, none⟩,
   ⟨(some 5), .mov (.t 16), none, none⟩,
   ⟨(some 6), .mov (.t 17), none, none⟩])
  (.seq (.region [⟨(some 19), .mov (.t 5), none, none⟩,
    ⟨(some 20), .load 3 true (.t 3), none, none⟩,
    ⟨(some 21), .call N_meter_New [((.t 19), .fz), ((.t 20), .fz)] [.pv 8 true, .fz], none, none⟩,
    ⟨(some 18), .mov (.t 21), none, none⟩,
    ⟨(some 22), .extract (.t 18) 0, none, none⟩,
    ⟨(some 23), .extract (.t 18) 1, none, some (.int .i64)⟩,
    ⟨(some 7), .mov (.t 22), none, none⟩,
    ⟨(some 8), .mov (.t 23), none, some (.int .i64)⟩])
   (.seq (.region [⟨(some 25), .load 3 true (.t 3), none, none⟩,
     ⟨(some 26), .call N_meter_New [((.c (.fz (.nilp))), .fz), ((.t 25), .fz)] [.pv 8 true, .fz], none, none⟩,
     ⟨(some 24), .mov (.t 26), none, none⟩,
     ⟨(some 27), .extract (.t 24) 0, none, none⟩,
     ⟨(some 28), .extract (.t 24) 1, none, some (.int .i64)⟩,
     ⟨(some 9), .mov (.t 27), none, none⟩,
     ⟨(some 10), .mov (.t 28), none, some (.int .i64)⟩])
    (.seq (.region [⟨(some 11), .mov (.c (.fz (.int .i64 0))), none, some (.int .i64)⟩])
     (.seq (.seq (.region [⟨(some 29), .fadr 1 (.t 3), none, none⟩,
        ⟨(some 30), .load 1 false (.t 29), none, some (.int .i64)⟩,
        ⟨(some 31), .binI .lss .i64 (.t 30) (.c (.fz (.int .i64 0))), none, some .bool⟩,
        ⟨(some 32), .mov (.t 31), none, some .bool⟩,
        ⟨(some 33), .fadr 1 (.t 3), (some (32, false)), none⟩,
        ⟨(some 34), .load 1 false (.t 33), (some (32, false)), some (.int .i64)⟩,
        ⟨(some 35), .mov (.t 6), (some (32, false)), none⟩,
        ⟨(some 36), .len (.sl 1 false) (.t 35), (some (32, false)), some (.int .i64)⟩,
        ⟨(some 37), .binI .geq .i64 (.t 34) (.t 36), (some (32, false)), some .bool⟩,
        ⟨(some 38), .pick (.t 32) (.c (.fz (.bool true))) (.t 37), none, some .bool⟩])
       (.cond (.t 38) (.region [⟨(some 11), .mov (.c (.fz (.int .i64 11))), none, some (.int .i64)⟩])
        (.skip)))
      (.trim [3, 6, 7, 8, 10, 11] A_law23_MeterNew_j3))))))⟩
def J_law23_MeterNew_3_0 (R : Orc) (k : Nat) (w : Bool) (x6 : FV) (x8 : Int) (x10 : Int) (x11 : Int) (h4096_0 : Int) (h4096_1 : Int) (h4096_2 : Bool) := execL R k w [] A_law23_MeterNew_j3 Ans ⟨[(3, .ptr 4096 0 0), (6, .fz x6), (7, .fz FV.nilp), (8, .fz (FV.int .i64 x8)), (10, .fz (FV.int .i64 x10)), (11, .fz (FV.int .i64 x11))], [(4095, .dead), (4096, .var 3 true (.fz (FV.ag [(FV.int .i64 h4096_0), (FV.int .i64 h4096_1), (FV.bool h4096_2)])))]⟩ (kFin R [(.tmp 4, .fz)] [])
def J_law23_MeterNew_3_1 (R : Orc) (k : Nat) (w : Bool) (x6 : FV) (x8 : Int) (x10 : Int) (x11 : Int) (h4096_0 : Int) (h4096_1 : Int) (h4096_2 : Bool) (h4097 : FV) := execL R k w [] A_law23_MeterNew_j3 Ans ⟨[(3, .ptr 4096 0 0), (6, .fz x6), (7, .ptr 4097 0 0), (8, .fz (FV.int .i64 x8)), (10, .fz (FV.int .i64 x10)), (11, .fz (FV.int .i64 x11))], [(4095, .dead), (4096, .var 3 true (.fz (FV.ag [(FV.int .i64 h4096_0), (FV.int .i64 h4096_1), (FV.bool h4096_2)]))), (4097, .var 8 true (.fz h4097))]⟩ (kFin R [(.tmp 4, .fz)] [])
def J_law23_MeterNew_2_0 (R : Orc) (k : Nat) (w : Bool) (x6 : FV) (x8 : Int) (x10 : Int) (x11 : Int) (h4096_0 : Int) (h4096_1 : Int) (h4096_2 : Bool) := execL R k w [] A_law23_MeterNew_j2 Ans ⟨[(3, .ptr 4096 0 0), (6, .fz x6), (7, .fz FV.nilp), (8, .fz (FV.int .i64 x8)), (10, .fz (FV.int .i64 x10)), (11, .fz (FV.int .i64 x11))], [(4095, .dead), (4096, .var 3 true (.fz (FV.ag [(FV.int .i64 h4096_0), (FV.int .i64 h4096_1), (FV.bool h4096_2)])))]⟩ (kFin R [(.tmp 4, .fz)] [])
def J_law23_MeterNew_2_1 (R : Orc) (k : Nat) (w : Bool) (x6 : FV) (x8 : Int) (x10 : Int) (x11 : Int) (h4096_0 : Int) (h4096_1 : Int) (h4096_2 : Bool) (h4097 : FV) := execL R k w [] A_law23_MeterNew_j2 Ans ⟨[(3, .ptr 4096 0 0), (6, .fz x6), (7, .ptr 4097 0 0), (8, .fz (FV.int .i64 x8)), (10, .fz (FV.int .i64 x10)), (11, .fz (FV.int .i64 x11))], [(4095, .dead), (4096, .var 3 true (.fz (FV.ag [(FV.int .i64 h4096_0), (FV.int .i64 h4096_1), (FV.bool h4096_2)]))), (4097, .var 8 true (.fz h4097))]⟩ (kFin R [(.tmp 4, .fz)] [])
def J_law23_MeterNew_1_0 (R : Orc) (k : Nat) (w : Bool) (x6 : FV) (x8 : Int) (h4096_0 : Int) (h4096_1 : Int) (h4096_2 : Bool) := execL R k w [] A_law23_MeterNew_j1 Ans ⟨[(3, .ptr 4096 0 0), (6, .fz x6), (7, .fz FV.nilp), (8, .fz (FV.int .i64 x8))], [(4095, .dead), (4096, .var 3 true (.fz (FV.ag [(FV.int .i64 h4096_0), (FV.int .i64 h4096_1), (FV.bool h4096_2)])))]⟩ (kFin R [(.tmp 4, .fz)] [])
def J_law23_MeterNew_1_1 (R : Orc) (k : Nat) (w : Bool) (x6 : FV) (x8 : Int) (h4096_0 : Int) (h4096_1 : Int) (h4096_2 : Bool) (h4097 : FV) := execL R k w [] A_law23_MeterNew_j1 Ans ⟨[(3, .ptr 4096 0 0), (6, .fz x6), (7, .ptr 4097 0 0), (8, .fz (FV.int .i64 x8))], [(4095, .dead), (4096, .var 3 true (.fz (FV.ag [(FV.int .i64 h4096_0), (FV.int .i64 h4096_1), (FV.bool h4096_2)]))), (4097, .var 8 true (.fz h4097))]⟩ (kFin R [(.tmp 4, .fz)] [])
theorem E_law23_MeterNew (R : Orc) (k : Nat) (w : Bool) (a0 : Int) (a1_0 : Int) (a1_1 : Int) (a1_2 : Bool) : callL R k w A_law23_MeterNew [.fz (FV.int .i64 a0), .fz (FV.ag [(FV.int .i64 a1_0), (FV.int .i64 a1_1), (FV.bool a1_2)])] = onR (R N_law23_of [.fz (FV.int .i64 a0)]) fun r0 => when (List.isEmpty r0.2 && allF [.fz, .fz] r0.1) (onR (R N_meter_New [.fz (TV.toF (List.getD r0.1 0 TV.em)), .fz (FV.ag [(FV.int .i64 a1_0), (FV.int .i64 a1_1), (FV.bool a1_2)])]) fun r1 => when (List.length r1.2 == 0 && (List.all r1.2 LV.isFz && List.length r1.1 == 2)) (ifB (TV.isF (List.getD r1.1 0 TV.em))
  (when (FV.isNil (TV.toF (List.getD r1.1 0 TV.em))) (when (TV.isF (List.getD r1.1 1 TV.em)) (when (FV.isInt .i64 (TV.toF (List.getD r1.1 1 TV.em))) (onR (R N_meter_New [.fz FV.nilp, .fz (FV.ag [(FV.int .i64 a1_0), (FV.int .i64 a1_1), (FV.bool a1_2)])]) fun r2 => when (List.length r2.2 == 0 && (List.all r2.2 LV.isFz && List.length r2.1 == 2)) (ifB (TV.isF (List.getD r2.1 0 TV.em))
   (when (FV.isNil (TV.toF (List.getD r2.1 0 TV.em))) (when (TV.isF (List.getD r2.1 1 TV.em)) (when (FV.isInt .i64 (TV.toF (List.getD r2.1 1 TV.em))) (ifB (decide (a1_1 < 0))
    (jump w (J_law23_MeterNew_3_0 R k w (TV.toF (List.getD r0.1 1 TV.em)) (FV.toInt (TV.toF (List.getD r1.1 1 TV.em))) (FV.toInt (TV.toF (List.getD r2.1 1 TV.em))) 11 a1_0 a1_1 a1_2))
    (when (FV.isSl (TV.toF (List.getD r0.1 1 TV.em))) (ifB (decide (a1_1 ≥ (List.length (FV.toSl (TV.toF (List.getD r0.1 1 TV.em))) : Int)))
     (jump w (J_law23_MeterNew_3_0 R k w (TV.toF (List.getD r0.1 1 TV.em)) (FV.toInt (TV.toF (List.getD r1.1 1 TV.em))) (FV.toInt (TV.toF (List.getD r2.1 1 TV.em))) 11 a1_0 a1_1 a1_2))
     (jump w (J_law23_MeterNew_3_0 R k w (TV.toF (List.getD r0.1 1 TV.em)) (FV.toInt (TV.toF (List.getD r1.1 1 TV.em))) (FV.toInt (TV.toF (List.getD r2.1 1 TV.em))) 0 a1_0 a1_1 a1_2))))))))
   (when (TV.isPv 8 true (List.getD r2.1 0 TV.em)) (when (TV.isF (List.getD r2.1 1 TV.em)) (when (FV.isInt .i64 (TV.toF (List.getD r2.1 1 TV.em))) (ifB (decide (a1_1 < 0))
    (jump w (J_law23_MeterNew_3_0 R k w (TV.toF (List.getD r0.1 1 TV.em)) (FV.toInt (TV.toF (List.getD r1.1 1 TV.em))) (FV.toInt (TV.toF (List.getD r2.1 1 TV.em))) 11 a1_0 a1_1 a1_2))
    (when (FV.isSl (TV.toF (List.getD r0.1 1 TV.em))) (ifB (decide (a1_1 ≥ (List.length (FV.toSl (TV.toF (List.getD r0.1 1 TV.em))) : Int)))
     (jump w (J_law23_MeterNew_3_0 R k w (TV.toF (List.getD r0.1 1 TV.em)) (FV.toInt (TV.toF (List.getD r1.1 1 TV.em))) (FV.toInt (TV.toF (List.getD r2.1 1 TV.em))) 11 a1_0 a1_1 a1_2))
     (jump w (J_law23_MeterNew_3_0 R k w (TV.toF (List.getD r0.1 1 TV.em)) (FV.toInt (TV.toF (List.getD r1.1 1 TV.em))) (FV.toInt (TV.toF (List.getD r2.1 1 TV.em))) 0 a1_0 a1_1 a1_2)))))))))))))
  (when (TV.isPv 8 true (List.getD r1.1 0 TV.em)) (when (TV.isF (List.getD r1.1 1 TV.em)) (when (FV.isInt .i64 (TV.toF (List.getD r1.1 1 TV.em))) (onR (R N_meter_New [.fz FV.nilp, .fz (FV.ag [(FV.int .i64 a1_0), (FV.int .i64 a1_1), (FV.bool a1_2)])]) fun r3 => when (List.length r3.2 == 0 && (List.all r3.2 LV.isFz && List.length r3.1 == 2)) (ifB (TV.isF (List.getD r3.1 0 TV.em))
   (when (FV.isNil (TV.toF (List.getD r3.1 0 TV.em))) (when (TV.isF (List.getD r3.1 1 TV.em)) (when (FV.isInt .i64 (TV.toF (List.getD r3.1 1 TV.em))) (ifB (decide (a1_1 < 0))
    (jump w (J_law23_MeterNew_3_1 R k w (TV.toF (List.getD r0.1 1 TV.em)) (FV.toInt (TV.toF (List.getD r1.1 1 TV.em))) (FV.toInt (TV.toF (List.getD r3.1 1 TV.em))) 11 a1_0 a1_1 a1_2 (TV.toV (List.getD r1.1 0 TV.em))))
    (when (FV.isSl (TV.toF (List.getD r0.1 1 TV.em))) (ifB (decide (a1_1 ≥ (List.length (FV.toSl (TV.toF (List.getD r0.1 1 TV.em))) : Int)))
     (jump w (J_law23_MeterNew_3_1 R k w (TV.toF (List.getD r0.1 1 TV.em)) (FV.toInt (TV.toF (List.getD r1.1 1 TV.em))) (FV.toInt (TV.toF (List.getD r3.1 1 TV.em))) 11 a1_0 a1_1 a1_2 (TV.toV (List.getD r1.1 0 TV.em))))
     (jump w (J_law23_MeterNew_3_1 R k w (TV.toF (List.getD r0.1 1 TV.em)) (FV.toInt (TV.toF (List.getD r1.1 1 TV.em))) (FV.toInt (TV.toF (List.getD r3.1 1 TV.em))) 0 a1_0 a1_1 a1_2 (TV.toV (List.getD r1.1 0 TV.em))))))))))
   (when (TV.isPv 8 true (List.getD r3.1 0 TV.em)) (when (TV.isF (List.getD r3.1 1 TV.em)) (when (FV.isInt .i64 (TV.toF (List.getD r3.1 1 TV.em))) (ifB (decide (a1_1 < 0))
    (jump w (J_law23_MeterNew_3_1 R k w (TV.toF (List.getD r0.1 1 TV.em)) (FV.toInt (TV.toF (List.getD r1.1 1 TV.em))) (FV.toInt (TV.toF (List.getD r3.1 1 TV.em))) 11 a1_0 a1_1 a1_2 (TV.toV (List.getD r1.1 0 TV.em))))
    (when (FV.isSl (TV.toF (List.getD r0.1 1 TV.em))) (ifB (decide (a1_1 ≥ (List.length (FV.toSl (TV.toF (List.getD r0.1 1 TV.em))) : Int)))
     (jump w (J_law23_MeterNew_3_1 R k w (TV.toF (List.getD r0.1 1 TV.em)) (FV.toInt (TV.toF (List.getD r1.1 1 TV.em))) (FV.toInt (TV.toF (List.getD r3.1 1 TV.em))) 11 a1_0 a1_1 a1_2 (TV.toV (List.getD r1.1 0 TV.em))))
     (jump w (J_law23_MeterNew_3_1 R k w (TV.toF (List.getD r0.1 1 TV.em)) (FV.toInt (TV.toF (List.getD r1.1 1 TV.em))) (FV.toInt (TV.toF (List.getD r3.1 1 TV.em))) 0 a1_0 a1_1 a1_2 (TV.toV (List.getD r1.1 0 TV.em))))))))))))))))) := by kernel_rfl
theorem J_law23_MeterNew_3_0_eq (R : Orc) (k : Nat) (w : Bool) (x6 : FV) (x8 : Int) (x10 : Int) (x11 : Int) (h4096_0 : Int) (h4096_1 : Int) (h4096_2 : Bool) : J_law23_MeterNew_3_0 R k w x6 x8 x10 x11 h4096_0 h4096_1 h4096_2 = ifB (decide (h4096_0 < 0))
  (jump w (J_law23_MeterNew_2_0 R k w x6 x8 x10 2 h4096_0 h4096_1 h4096_2))
  (ifB (decide (h4096_0 > 20000))
   (jump w (J_law23_MeterNew_2_0 R k w x6 x8 x10 2 h4096_0 h4096_1 h4096_2))
   (jump w (J_law23_MeterNew_2_0 R k w x6 x8 x10 x11 h4096_0 h4096_1 h4096_2))) := by kernel_rfl
theorem J_law23_MeterNew_3_1_eq (R : Orc) (k : Nat) (w : Bool) (x6 : FV) (x8 : Int) (x10 : Int) (x11 : Int) (h4096_0 : Int) (h4096_1 : Int) (h4096_2 : Bool) (h4097 : FV) : J_law23_MeterNew_3_1 R k w x6 x8 x10 x11 h4096_0 h4096_1 h4096_2 h4097 = ifB (decide (h4096_0 < 0))
  (jump w (J_law23_MeterNew_2_1 R k w x6 x8 x10 2 h4096_0 h4096_1 h4096_2 h4097))
  (ifB (decide (h4096_0 > 20000))
   (jump w (J_law23_MeterNew_2_1 R k w x6 x8 x10 2 h4096_0 h4096_1 h4096_2 h4097))
   (jump w (J_law23_MeterNew_2_1 R k w x6 x8 x10 x11 h4096_0 h4096_1 h4096_2 h4097))) := by kernel_rfl
theorem J_law23_MeterNew_2_0_eq (R : Orc) (k : Nat) (w : Bool) (x6 : FV) (x8 : Int) (x10 : Int) (x11 : Int) (h4096_0 : Int) (h4096_1 : Int) (h4096_2 : Bool) : J_law23_MeterNew_2_0 R k w x6 x8 x10 x11 h4096_0 h4096_1 h4096_2 = onR (R N_meter_Meter_Spend [.fz .nilp, .fz (FV.int .i64 0)]) fun r4 => when (List.isEmpty r4.2 && allF [.fz] r4.1) (when (FV.isBool (TV.toF (List.getD r4.1 0 TV.em))) (ifB (FV.toBool (TV.toF (List.getD r4.1 0 TV.em)))
  (some ([.fz (FV.bool false)], []))
  (onR (R N_meter_Meter_Raise [.fz .nilp, .fz (FV.int .i64 0)]) fun r5 => when (List.isEmpty r5.2 && allF [.fz] r5.1) (when (FV.isBool (TV.toF (List.getD r5.1 0 TV.em))) (ifB (FV.toBool (TV.toF (List.getD r5.1 0 TV.em)))
   (some ([.fz (FV.bool false)], []))
   (onR (R N_meter_Meter_Tell [.fz .nilp]) fun r6 => when (List.isEmpty r6.2 && allF [.fz] r6.1) (when (FV.isBool (TV.toF (List.getD r6.1 0 TV.em))) (ifB (FV.toBool (TV.toF (List.getD r6.1 0 TV.em)))
    (some ([.fz (FV.bool false)], []))
    (onR (R N_meter_Meter_End [.fz .nilp]) fun r7 => when (List.isEmpty r7.2 && allF [.fz] r7.1) (when (FV.isInt .i64 (TV.toF (List.getD r7.1 0 TV.em))) (ifB ((FV.toInt (TV.toF (List.getD r7.1 0 TV.em))) != 0)
     (some ([.fz (FV.bool false)], []))
     (onR (R N_meter_Meter_Label [.fz .nilp]) fun r8 => when (List.isEmpty r8.2 && allF [.fz] r8.1) (when (FV.isInt .i64 (TV.toF (List.getD r8.1 0 TV.em))) (ifB ((FV.toInt (TV.toF (List.getD r8.1 0 TV.em))) != 0)
      (some ([.fz (FV.bool false)], []))
      (onR (R N_meter_Meter_Left [.fz .nilp]) fun r9 => when (List.isEmpty r9.2 && allF [.fz] r9.1) (when (FV.isInt .i64 (TV.toF (List.getD r9.1 0 TV.em))) (ifB ((FV.toInt (TV.toF (List.getD r9.1 0 TV.em))) != 0)
       (some ([.fz (FV.bool false)], []))
       (ifB (x10 != 1)
        (some ([.fz (FV.bool false)], []))
        (ifB (x8 != x11)
         (some ([.fz (FV.bool false)], []))
         (jump w (J_law23_MeterNew_1_0 R k w x6 x8 h4096_0 h4096_1 h4096_2))))))))))))))))))))) := by kernel_rfl
theorem J_law23_MeterNew_2_1_eq (R : Orc) (k : Nat) (w : Bool) (x6 : FV) (x8 : Int) (x10 : Int) (x11 : Int) (h4096_0 : Int) (h4096_1 : Int) (h4096_2 : Bool) (h4097 : FV) : J_law23_MeterNew_2_1 R k w x6 x8 x10 x11 h4096_0 h4096_1 h4096_2 h4097 = onR (R N_meter_Meter_Spend [.fz .nilp, .fz (FV.int .i64 0)]) fun r10 => when (List.isEmpty r10.2 && allF [.fz] r10.1) (when (FV.isBool (TV.toF (List.getD r10.1 0 TV.em))) (ifB (FV.toBool (TV.toF (List.getD r10.1 0 TV.em)))
  (some ([.fz (FV.bool false)], []))
  (onR (R N_meter_Meter_Raise [.fz .nilp, .fz (FV.int .i64 0)]) fun r11 => when (List.isEmpty r11.2 && allF [.fz] r11.1) (when (FV.isBool (TV.toF (List.getD r11.1 0 TV.em))) (ifB (FV.toBool (TV.toF (List.getD r11.1 0 TV.em)))
   (some ([.fz (FV.bool false)], []))
   (onR (R N_meter_Meter_Tell [.fz .nilp]) fun r12 => when (List.isEmpty r12.2 && allF [.fz] r12.1) (when (FV.isBool (TV.toF (List.getD r12.1 0 TV.em))) (ifB (FV.toBool (TV.toF (List.getD r12.1 0 TV.em)))
    (some ([.fz (FV.bool false)], []))
    (onR (R N_meter_Meter_End [.fz .nilp]) fun r13 => when (List.isEmpty r13.2 && allF [.fz] r13.1) (when (FV.isInt .i64 (TV.toF (List.getD r13.1 0 TV.em))) (ifB ((FV.toInt (TV.toF (List.getD r13.1 0 TV.em))) != 0)
     (some ([.fz (FV.bool false)], []))
     (onR (R N_meter_Meter_Label [.fz .nilp]) fun r14 => when (List.isEmpty r14.2 && allF [.fz] r14.1) (when (FV.isInt .i64 (TV.toF (List.getD r14.1 0 TV.em))) (ifB ((FV.toInt (TV.toF (List.getD r14.1 0 TV.em))) != 0)
      (some ([.fz (FV.bool false)], []))
      (onR (R N_meter_Meter_Left [.fz .nilp]) fun r15 => when (List.isEmpty r15.2 && allF [.fz] r15.1) (when (FV.isInt .i64 (TV.toF (List.getD r15.1 0 TV.em))) (ifB ((FV.toInt (TV.toF (List.getD r15.1 0 TV.em))) != 0)
       (some ([.fz (FV.bool false)], []))
       (ifB (x10 != 1)
        (some ([.fz (FV.bool false)], []))
        (ifB (x8 != x11)
         (some ([.fz (FV.bool false)], []))
         (jump w (J_law23_MeterNew_1_1 R k w x6 x8 h4096_0 h4096_1 h4096_2 h4097))))))))))))))))))))) := by kernel_rfl
theorem J_law23_MeterNew_1_0_eq (R : Orc) (k : Nat) (w : Bool) (x6 : FV) (x8 : Int) (h4096_0 : Int) (h4096_1 : Int) (h4096_2 : Bool) : J_law23_MeterNew_1_0 R k w x6 x8 h4096_0 h4096_1 h4096_2 = ifB (x8 != 0)
  (onR (R N_law23_lives []) fun r16 => when (List.isEmpty r16.2 && allF [.fz] r16.1) (when (FV.isBool (TV.toF (List.getD r16.1 0 TV.em))) (some ([.fz (FV.bool (FV.toBool (TV.toF (List.getD r16.1 0 TV.em))))], []))))
  (onR (R N_meter_Meter_End [.fz .nilp]) fun r17 => when (List.isEmpty r17.2 && allF [.fz] r17.1) (when (FV.isInt .i64 (TV.toF (List.getD r17.1 0 TV.em))) (ifB ((FV.toInt (TV.toF (List.getD r17.1 0 TV.em))) == 0)
   (onR (R N_meter_Meter_Left [.fz .nilp]) fun r18 => when (List.isEmpty r18.2 && allF [.fz] r18.1) (when (FV.isInt .i64 (TV.toF (List.getD r18.1 0 TV.em))) (ifB ((FV.toInt (TV.toF (List.getD r18.1 0 TV.em))) == h4096_0)
    (onR (R N_meter_Meter_Label [.fz .nilp]) fun r19 => when (List.isEmpty r19.2 && allF [.fz] r19.1) (when (FV.isInt .i64 (TV.toF (List.getD r19.1 0 TV.em))) (onR (R N_ref09_Bottom [.fz x6]) fun r20 => when (List.isEmpty r20.2 && allF [.fz] r20.1) (when (FV.isInt .i64 (TV.toF (List.getD r20.1 0 TV.em))) (ifB ((FV.toInt (TV.toF (List.getD r19.1 0 TV.em))) == (FV.toInt (TV.toF (List.getD r20.1 0 TV.em))))
     (onR (R N_law23_lives []) fun r21 => when (List.isEmpty r21.2 && allF [.fz] r21.1) (when (FV.isBool (TV.toF (List.getD r21.1 0 TV.em))) (some ([.fz (FV.bool (FV.toBool (TV.toF (List.getD r21.1 0 TV.em))))], []))))
     (some ([.fz (FV.bool false)], [])))))))
    (some ([.fz (FV.bool false)], [])))))
   (some ([.fz (FV.bool false)], []))))) := by kernel_rfl
theorem J_law23_MeterNew_1_1_eq (R : Orc) (k : Nat) (w : Bool) (x6 : FV) (x8 : Int) (h4096_0 : Int) (h4096_1 : Int) (h4096_2 : Bool) (h4097 : FV) : J_law23_MeterNew_1_1 R k w x6 x8 h4096_0 h4096_1 h4096_2 h4097 = ifB (x8 != 0)
  (some ([.fz (FV.bool false)], []))
  (onR (R N_meter_Meter_End [.pv 8 true (.fz h4097)]) fun r22 => when (List.length r22.2 == 1 && (List.all r22.2 LV.isFz && List.length r22.1 == 1)) (when (TV.isF (List.getD r22.1 0 TV.em)) (when (FV.isInt .i64 (TV.toF (List.getD r22.1 0 TV.em))) (ifB ((FV.toInt (TV.toF (List.getD r22.1 0 TV.em))) == 0)
   (onR (R N_meter_Meter_Left [.pv 8 true (.fz (LV.toFz (List.getD r22.2 0 LV.nils)))]) fun r23 => when (List.length r23.2 == 1 && (List.all r23.2 LV.isFz && List.length r23.1 == 1)) (when (TV.isF (List.getD r23.1 0 TV.em)) (when (FV.isInt .i64 (TV.toF (List.getD r23.1 0 TV.em))) (ifB ((FV.toInt (TV.toF (List.getD r23.1 0 TV.em))) == h4096_0)
    (onR (R N_meter_Meter_Label [.pv 8 true (.fz (LV.toFz (List.getD r23.2 0 LV.nils)))]) fun r24 => when (List.length r24.2 == 1 && (List.all r24.2 LV.isFz && List.length r24.1 == 1)) (when (TV.isF (List.getD r24.1 0 TV.em)) (when (FV.isInt .i64 (TV.toF (List.getD r24.1 0 TV.em))) (onR (R N_ref09_Bottom [.fz x6]) fun r25 => when (List.isEmpty r25.2 && allF [.fz] r25.1) (when (FV.isInt .i64 (TV.toF (List.getD r25.1 0 TV.em))) (ifB ((FV.toInt (TV.toF (List.getD r24.1 0 TV.em))) == (FV.toInt (TV.toF (List.getD r25.1 0 TV.em))))
     (onR (R N_law23_lives []) fun r26 => when (List.isEmpty r26.2 && allF [.fz] r26.1) (when (FV.isBool (TV.toF (List.getD r26.1 0 TV.em))) (some ([.fz (FV.bool (FV.toBool (TV.toF (List.getD r26.1 0 TV.em))))], []))))
     (some ([.fz (FV.bool false)], []))))))))
    (some ([.fz (FV.bool false)], []))))))
   (some ([.fz (FV.bool false)], [])))))) := by kernel_rfl
/-! keyhole/keyholelaw23.MeterRuns -/
def A_law23_MeterRuns_j1 : ACode := .cond (.t 98) (.seq (.region [⟨(some 14), .mov (.c (.fz (.int .i64 1))), none, some (.int .i64)⟩])
  (.region [⟨(some 18), .mov (.c (.fz (.bool false))), none, some .bool⟩]))
 (.seq (.region [⟨(some 99), .mov (.t 18), none, some .bool⟩])
  (.cond (.t 99) (.region [⟨(some 100), .mov (.t 12), none, some (.int .i64)⟩,
    ⟨(some 101), .fadr 1 (.t 16), none, none⟩,
    ⟨(some 102), .load 1 false (.t 101), none, some (.int .i64)⟩,
    ⟨(some 103), .binI .sub .i64 (.t 100) (.t 102), none, some (.int .i64)⟩,
    ⟨(some 12), .mov (.t 103), none, some (.int .i64)⟩])
   (.skip)))
def A_law23_MeterRuns_j2 : ACode := .cond (.t 120) (.region [⟨(some 121), .mov (.t 8), none, none⟩,
  ⟨(some 122), .call N_ref09_Top [((.t 121), .fz)] [.fz], none, some (.int .i64)⟩,
  ⟨(some 11), .mov (.t 122), none, some (.int .i64)⟩])
 (.region [⟨(some 123), .mov (.t 8), none, none⟩,
  ⟨(some 124), .mov (.t 11), none, some (.int .i64)⟩,
  ⟨(some 125), .fadr 1 (.t 16), none, none⟩,
  ⟨(some 126), .load 1 false (.t 125), none, some (.int .i64)⟩,
  ⟨(some 127), .call N_ref09_Join [((.t 123), .fz), ((.t 124), .fz), ((.t 126), .fz)] [.fz], none, some (.int .i64)⟩,
  ⟨(some 11), .mov (.t 127), none, some (.int .i64)⟩])
def A_law23_MeterRuns_j3 : ACode := .seq (.draws [⟨⟨(some 128), .fadr 2 (.t 4), none, none⟩, []⟩,
  ⟨⟨(some 129), .load 1 false (.t 128), none, some .bool⟩, [0]⟩,
  ⟨⟨(some 130), .mov (.t 129), none, some .bool⟩, [1]⟩,
  ⟨⟨(some 131), .mov (.t 8), (some (130, true)), none⟩, [2]⟩,
  ⟨⟨(some 132), .mov (.t 11), (some (130, true)), some (.int .i64)⟩, [2]⟩,
  ⟨⟨(some 133), .iadr (.sl 1 false) (.t 131) (.t 132), (some (130, true)), none⟩, [3, 4, 2]⟩,
  ⟨⟨(some 134), .load 1 false (.t 133), (some (130, true)), none⟩, [5, 2]⟩,
  ⟨⟨(some 135), .fadr 1 (.t 4), (some (130, true)), none⟩, [2]⟩,
  ⟨⟨(some 136), .load 1 false (.t 135), (some (130, true)), some (.int .i64)⟩, [7, 2]⟩,
  ⟨⟨(some 137), .iadr (.sl 1 false) (.t 134) (.t 136), (some (130, true)), none⟩, [6, 8, 2]⟩,
  ⟨⟨(some 138), .load 1 false (.t 137), (some (130, true)), some .bool⟩, [9, 2]⟩,
  ⟨⟨(some 139), .notB (.t 138), (some (130, true)), some .bool⟩, [10, 2]⟩,
  ⟨⟨(some 140), .pick (.t 130) (.t 139) (.c (.fz (.bool false))), none, some .bool⟩, [2, 11]⟩])
 (.cond (.t 140) (.seq (.region [⟨(some 14), .mov (.c (.fz (.int .i64 2))), none, some (.int .i64)⟩])
   (.region [⟨(some 18), .mov (.c (.fz (.bool false))), none, some .bool⟩]))
  (.skip))
def A_law23_MeterRuns_s4 : ACode := .trim [2, 4, 8, 9, 11, 12, 13, 14, 15, 16, 17, 18, 19] A_law23_MeterRuns_j3
def A_law23_MeterRuns_j5 : ACode := .cond (.t 77) (.seq (.region [⟨(some 14), .mov (.c (.fz (.int .i64 3))), none, some (.int .i64)⟩])
  (.region [⟨(some 18), .mov (.c (.fz (.bool false))), none, some .bool⟩]))
 (.seq (.region [⟨(some 78), .mov (.t 18), none, some .bool⟩])
  (.cond (.t 78) (.region [⟨(some 79), .mov (.t 13), none, some (.int .i64)⟩,
    ⟨(some 80), .binI .add .i64 (.t 79) (.c (.fz (.int .i64 1))), none, some (.int .i64)⟩,
    ⟨(some 13), .mov (.t 80), none, some (.int .i64)⟩])
   (.skip)))
def A_law23_MeterRuns_j6 : ACode := .seq (.region [⟨(some 141), .mov (.t 19), none, some .bool⟩,
  ⟨(some 142), .mov (.t 18), none, some .bool⟩,
  ⟨(some 143), .binB true (.t 141) (.t 142), none, some .bool⟩,
  ⟨(some 144), .mov (.t 143), none, some .bool⟩,
  ⟨(some 145), .mov (.t 9), (some (144, false)), none⟩,
  ⟨(some 146), .call N_meter_Meter_End [((.t 145), .pv 8 true)] [.fz], (some (144, false)), some (.int .i64)⟩,
  ⟨(some 147), .mov (.t 14), (some (144, false)), some (.int .i64)⟩,
  ⟨(some 148), .binI .neq .i64 (.t 146) (.t 147), (some (144, false)), some .bool⟩,
  ⟨(some 149), .pick (.t 144) (.c (.fz (.bool true))) (.t 148), none, some .bool⟩,
  ⟨(some 150), .mov (.t 149), none, some .bool⟩,
  ⟨(some 151), .mov (.t 9), (some (150, false)), none⟩,
  ⟨(some 152), .call N_meter_Meter_Label [((.t 151), .pv 8 true)] [.fz], (some (150, false)), some (.int .i64)⟩,
  ⟨(some 153), .mov (.t 11), (some (150, false)), some (.int .i64)⟩,
  ⟨(some 154), .binI .neq .i64 (.t 152) (.t 153), (some (150, false)), some .bool⟩,
  ⟨(some 155), .pick (.t 150) (.c (.fz (.bool true))) (.t 154), none, some .bool⟩,
  ⟨(some 156), .mov (.t 155), none, some .bool⟩,
  ⟨(some 157), .mov (.t 9), (some (156, false)), none⟩,
  ⟨(some 158), .call N_meter_Meter_Left [((.t 157), .pv 8 true)] [.fz], (some (156, false)), some (.int .i64)⟩,
  ⟨(some 159), .mov (.t 12), (some (156, false)), some (.int .i64)⟩,
  ⟨(some 160), .binI .neq .i64 (.t 158) (.t 159), (some (156, false)), some .bool⟩,
  ⟨(some 161), .pick (.t 156) (.c (.fz (.bool true))) (.t 160), none, some .bool⟩])
 (.cond (.t 161) (.seq (.region [⟨(some 6), .mov (.c (.fz (.bool false))), none, some .bool⟩])
   (.ret))
  (.skip))
def A_law23_MeterRuns_s7 : ACode := .trim [2, 4, 8, 9, 11, 12, 13, 14, 15, 16, 17, 18, 19] A_law23_MeterRuns_j6
def A_law23_MeterRuns_s8 : ACode := .region [⟨(some 65), .mov (.t 17), none, some (.int .i64)⟩,
 ⟨(some 66), .binI .add .i64 (.t 65) (.c (.fz (.int .i64 1))), none, some (.int .i64)⟩,
 ⟨(some 17), .mov (.t 66), none, some (.int .i64)⟩]
def A_law23_MeterRuns_j9 : ACode := .seq (.block 3 (.seq (.region [⟨(some 67), .mov (.t 14), none, some (.int .i64)⟩,
    ⟨(some 68), .binI .eql .i64 (.t 67) (.c (.fz (.int .i64 0))), none, some .bool⟩,
    ⟨(some 18), .mov (.t 68), none, some .bool⟩])
   (.seq (.region [⟨(some 19), .mov (.c (.fz (.bool false))), none, some .bool⟩])
    (.seq (.seq (.region [⟨(some 69), .fadr 0 (.t 16), none, none⟩,
       ⟨(some 70), .load 1 false (.t 69), none, some (.int .i64)⟩])
      (.block 4 (.seq (.region [⟨(some 82), .binI .eql .i64 (.t 70) (.c (.fz (.int .i64 0))), none, some .bool⟩,
         ⟨(some 81), .mov (.t 82), none, some .bool⟩])
        (.cond (.t 81) (.seq (.region [⟨(some 83), .mov (.t 9), none, none⟩,
           ⟨(some 84), .fadr 1 (.t 16), none, none⟩,
           ⟨(some 85), .load 1 false (.t 84), none, some (.int .i64)⟩,
           ⟨(some 86), .call N_meter_Meter_Spend [((.t 83), .pv 8 true), ((.t 85), .fz)] [.fz], none, some .bool⟩,
           ⟨(some 19), .mov (.t 86), none, some .bool⟩])
          (.seq (.region [⟨(some 87), .mov (.t 18), none, some .bool⟩,
            ⟨(some 88), .mov (.t 87), none, some .bool⟩,
            ⟨(some 89), .fadr 1 (.t 16), (some (88, true)), none⟩,
            ⟨(some 90), .load 1 false (.t 89), (some (88, true)), some (.int .i64)⟩,
            ⟨(some 91), .binI .lss .i64 (.t 90) (.c (.fz (.int .i64 0))), (some (88, true)), some .bool⟩,
            ⟨(some 92), .mov (.t 91), (some (88, true)), some .bool⟩,
            ⟨(some 93), .fadr 1 (.t 16), (some (92, false)), none⟩,
            ⟨(some 94), .load 1 false (.t 93), (some (92, false)), some (.int .i64)⟩,
            ⟨(some 95), .mov (.t 12), (some (92, false)), some (.int .i64)⟩,
            ⟨(some 96), .binI .gtr .i64 (.t 94) (.t 95), (some (92, false)), some .bool⟩,
            ⟨(some 97), .pick (.t 92) (.c (.fz (.bool true))) (.t 96), (some (88, true)), some .bool⟩,
            ⟨(some 98), .pick (.t 88) (.t 97) (.c (.fz (.bool false))), none, some .bool⟩])
           (.trim [2, 4, 8, 9, 11, 12, 13, 14, 15, 16, 17, 18, 19, 98] A_law23_MeterRuns_j1)))
         (.seq (.region [⟨(some 105), .binI .eql .i64 (.t 70) (.c (.fz (.int .i64 1))), none, some .bool⟩,
           ⟨(some 104), .mov (.t 105), none, some .bool⟩])
          (.cond (.t 104) (.seq (.region [⟨(some 106), .mov (.t 9), none, none⟩,
             ⟨(some 107), .fadr 1 (.t 16), none, none⟩,
             ⟨(some 108), .load 1 false (.t 107), none, some (.int .i64)⟩,
             ⟨(some 109), .call N_meter_Meter_Raise [((.t 106), .pv 8 true), ((.t 108), .fz)] [.fz], none, some .bool⟩,
             ⟨(some 19), .mov (.t 109), none, some .bool⟩])
            (.seq (.region [⟨(some 110), .mov (.t 18), none, some .bool⟩])
             (.cond (.t 110) (.seq (.seq (.region [⟨(some 111), .fadr 1 (.t 16), none, none⟩,
                 ⟨(some 112), .load 1 false (.t 111), none, some (.int .i64)⟩,
                 ⟨(some 113), .binI .lss .i64 (.t 112) (.c (.fz (.int .i64 0))), none, some .bool⟩,
                 ⟨(some 114), .mov (.t 113), none, some .bool⟩,
                 ⟨(some 115), .fadr 1 (.t 16), (some (114, false)), none⟩,
                 ⟨(some 116), .load 1 false (.t 115), (some (114, false)), some (.int .i64)⟩,
                 ⟨(some 117), .mov (.t 8), (some (114, false)), none⟩,
                 ⟨(some 118), .len (.sl 1 false) (.t 117), (some (114, false)), some (.int .i64)⟩,
                 ⟨(some 119), .binI .geq .i64 (.t 116) (.t 118), (some (114, false)), some .bool⟩,
                 ⟨(some 120), .pick (.t 114) (.c (.fz (.bool true))) (.t 119), none, some .bool⟩])
                (.trim [2, 4, 8, 9, 11, 12, 13, 14, 15, 16, 17, 18, 19, 120] A_law23_MeterRuns_j2))
               A_law23_MeterRuns_s4)
              (.skip))))
           (.seq (.region [⟨(some 71), .mov (.t 9), none, none⟩,
             ⟨(some 72), .call N_meter_Meter_Tell [((.t 71), .pv 8 true)] [.fz], none, some .bool⟩,
             ⟨(some 19), .mov (.t 72), none, some .bool⟩])
            (.seq (.region [⟨(some 73), .mov (.t 18), none, some .bool⟩,
              ⟨(some 74), .mov (.t 73), none, some .bool⟩,
              ⟨(some 75), .mov (.t 13), (some (74, true)), some (.int .i64)⟩,
              ⟨(some 76), .binI .eql .i64 (.t 75) (.c (.fz (.int .i64 512))), (some (74, true)), some .bool⟩,
              ⟨(some 77), .pick (.t 74) (.t 76) (.c (.fz (.bool false))), none, some .bool⟩])
             (.trim [2, 4, 8, 9, 11, 12, 13, 14, 15, 16, 17, 18, 19, 77] A_law23_MeterRuns_j5)))))))))
     A_law23_MeterRuns_s7))))
 A_law23_MeterRuns_s8
def A_law23_MeterRuns_b1 : ACode := .seq (.seq (.region [⟨(some 53), .mov (.t 17), none, some (.int .i64)⟩,
   ⟨(some 54), .binI .eql .i64 (.t 53) (.c (.fz (.int .i64 0))), none, some .bool⟩,
   ⟨(some 55), .mov (.t 54), none, some .bool⟩,
   ⟨(some 56), .mov (.t 17), (some (55, false)), some (.int .i64)⟩,
   ⟨(some 57), .fadr 2 (.t 16), (some (55, false)), none⟩,
   ⟨(some 58), .load 1 false (.t 57), (some (55, false)), some (.int .i64)⟩,
   ⟨(some 59), .binI .lss .i64 (.t 56) (.t 58), (some (55, false)), some .bool⟩,
   ⟨(some 60), .mov (.t 59), (some (55, false)), some .bool⟩,
   ⟨(some 61), .mov (.t 17), (some (60, true)), some (.int .i64)⟩,
   ⟨(some 62), .binI .lss .i64 (.t 61) (.c (.fz (.int .i64 600))), (some (60, true)), some .bool⟩,
   ⟨(some 63), .pick (.t 60) (.t 62) (.c (.fz (.bool false))), (some (55, false)), some .bool⟩,
   ⟨(some 64), .pick (.t 55) (.c (.fz (.bool true))) (.t 63), none, some .bool⟩])
  (.cond (.t 64) (.skip)
   (.exit 2)))
 (.trim [2, 4, 8, 9, 11, 12, 13, 14, 15, 16, 17] A_law23_MeterRuns_j9)
def A_law23_MeterRuns_s10 : ACode := .region [⟨(some 47), .mov (.t 15), none, some (.int .i64)⟩,
 ⟨(some 48), .binI .add .i64 (.t 47) (.c (.fz (.int .i64 1))), none, some (.int .i64)⟩,
 ⟨(some 15), .mov (.t 48), none, some (.int .i64)⟩]
def A_law23_MeterRuns_b2 : ACode := .seq (.seq (.region [⟨(some 43), .mov (.t 15), none, some (.int .i64)⟩,
   ⟨(some 44), .mov (.t 2), none, none⟩,
   ⟨(some 45), .len (.sl 3 true) (.t 44), none, some (.int .i64)⟩,
   ⟨(some 46), .binI .lss .i64 (.t 43) (.t 45), none, some .bool⟩])
  (.cond (.t 46) (.skip)
   (.exit 0)))
 (.seq (.block 1 (.seq (.region [⟨(some 49), .mov (.t 2), none, none⟩,
     ⟨(some 50), .mov (.t 15), none, some (.int .i64)⟩,
     ⟨(some 51), .iadr (.sl 3 true) (.t 49) (.t 50), none, none⟩,
     ⟨(some 52), .load 3 true (.t 51), none, none⟩,
     ⟨(some 16), .alloc 3 true (.fz (.ag [.int .i64 0, .int .i64 0, .int .i64 0])), none, none⟩,
     ⟨none, .store 3 true (.t 16) (.t 52), none, none⟩])
    (.seq (.region [⟨(some 17), .mov (.c (.fz (.int .i64 0))), none, some (.int .i64)⟩])
     (.block 2 (.loop [2, 4, 8, 9, 11, 12, 13, 14, 15, 16, 17] [2, 4, 6, 8, 9, 11, 12, 13, 14, 15] A_law23_MeterRuns_b1)))))
  A_law23_MeterRuns_s10)
def A_law23_MeterRuns_s11 : ACode := .seq (.region [⟨(some 162), .call N_law23_lives [] [.fz], none, some .bool⟩,
  ⟨(some 6), .mov (.t 162), none, some .bool⟩])
 (.ret)
def A_law23_MeterRuns_j12 : ACode := .seq (.draws [⟨⟨(some 39), .mov (.t 8), none, none⟩, []⟩,
  ⟨⟨(some 40), .call N_ref09_Bottom [((.t 39), .fz)] [.fz], none, some (.int .i64)⟩, [0]⟩,
  ⟨⟨(some 41), .fadr 0 (.t 4), none, none⟩, []⟩,
  ⟨⟨(some 42), .load 1 false (.t 41), none, some (.int .i64)⟩, [2]⟩,
  ⟨⟨(some 11), .mov (.t 40), none, some (.int .i64)⟩, [1, 1, 0, 1]⟩,
  ⟨⟨(some 12), .mov (.t 42), none, some (.int .i64)⟩, [3, 4, 0, 1, 2, 3, 4]⟩,
  ⟨⟨(some 13), .mov (.c (.fz (.int .i64 0))), none, some (.int .i64)⟩, [5, 0, 1, 2, 3, 4, 5]⟩,
  ⟨⟨(some 14), .mov (.c (.fz (.int .i64 0))), none, some (.int .i64)⟩, [6, 0, 1, 2, 3, 4, 5, 6]⟩])
 (.seq (.seq (.region [⟨(some 15), .mov (.c (.fz (.int .i64 0))), none, some (.int .i64)⟩])
   (.block 0 (.loop [2, 4, 8, 9, 11, 12, 13, 14, 15] [6] A_law23_MeterRuns_b2)))
  A_law23_MeterRuns_s11)
def A_law23_MeterRuns : AFunc := ⟨3, [(.tmp 6, .fz)], .seq (.region [⟨(some 4), .box 3 true (.t 1), none, none⟩,
  ⟨(some 6), .mov (.c (.fz (.bool false))), none, some .bool⟩])
 (.seq (.region [⟨(some 21), .mov (.t 0), none, some (.int .i64)⟩,
   ⟨(some 22), .call N_law23_of [((.t 21), .fz)] [.fz, .fz], none, none⟩,
   ⟨(some 20), .mov (.t 22), none, none⟩,
   ⟨(some 23), .extract (.t 20) 0, none, none⟩,
   ⟨(some 24), .extract (.t 20) 1, none, none⟩,
   ⟨(some 7), .mov (.t 23), none, none⟩,
   ⟨(some 8), .mov (.t 24), none, none⟩])
  (.seq (.region [⟨(some 26), .mov (.t 7), none, none⟩,
    ⟨(some 27), .load 3 true (.t 4), none, none⟩,
    ⟨(some 28), .call N_meter_New [((.t 26), .fz), ((.t 27), .fz)] [.pv 8 true, .fz], none, none⟩,
    ⟨(some 25), .mov (.t 28), none, none⟩,
    ⟨(some 29), .extract (.t 25) 0, none, none⟩,
    ⟨(some 30), .extract (.t 25) 1, none, some (.int .i64)⟩,
    ⟨(some 9), .mov (.t 29), none, none⟩,
    ⟨(some 10), .mov (.t 30), none, some (.int .i64)⟩])
   (.seq (.seq (.region [⟨(some 31), .mov (.t 10), none, some (.int .i64)⟩,
      ⟨(some 32), .binI .neq .i64 (.t 31) (.c (.fz (.int .i64 0))), none, some .bool⟩,
      ⟨(some 33), .mov (.t 32), none, some .bool⟩,
      ⟨(some 34), .mov (.t 2), (some (33, false)), none⟩,
      ⟨(some 35), .len (.sl 3 true) (.t 34), (some (33, false)), some (.int .i64)⟩,
      ⟨(some 36), .binI .gtr .i64 (.t 35) (.c (.fz (.int .i64 40))), (some (33, false)), some .bool⟩,
      ⟨(some 37), .pick (.t 33) (.c (.fz (.bool true))) (.t 36), none, some .bool⟩])
     (.cond (.t 37) (.seq (.region [⟨(some 38), .call N_law23_lives [] [.fz], none, some .bool⟩,
        ⟨(some 6), .mov (.t 38), none, some .bool⟩])
       (.ret))
      (.skip)))
    (.trim [2, 4, 8, 9] A_law23_MeterRuns_j12))))⟩
def J_law23_MeterRuns_12_0 (R : Orc) (k : Nat) (w : Bool) (x2 : List FV) (x8 : FV) (h4096_0 : Int) (h4096_1 : Int) (h4096_2 : Bool) := execL R k w [] A_law23_MeterRuns_j12 Ans ⟨[(2, .fz (FV.sl x2)), (4, .ptr 4096 0 0), (8, .fz x8), (9, .fz FV.nilp)], [(4095, .dead), (4096, .var 3 true (.fz (FV.ag [(FV.int .i64 h4096_0), (FV.int .i64 h4096_1), (FV.bool h4096_2)])))]⟩ (kFin R [(.tmp 6, .fz)] [])
def J_law23_MeterRuns_12_1 (R : Orc) (k : Nat) (w : Bool) (x2 : List FV) (x8 : FV) (h4096_0 : Int) (h4096_1 : Int) (h4096_2 : Bool) (h4097 : FV) := execL R k w [] A_law23_MeterRuns_j12 Ans ⟨[(2, .fz (FV.sl x2)), (4, .ptr 4096 0 0), (8, .fz x8), (9, .ptr 4097 0 0)], [(4095, .dead), (4096, .var 3 true (.fz (FV.ag [(FV.int .i64 h4096_0), (FV.int .i64 h4096_1), (FV.bool h4096_2)]))), (4097, .var 8 true (.fz h4097))]⟩ (kFin R [(.tmp 6, .fz)] [])
def K_law23_MeterRuns_2 (R : Orc) (k : Nat) (w : Bool) : AExit → St → Option Ans := (kBlk 0 (kSeq R k w [] A_law23_MeterRuns_s11 (kFin R [(.tmp 6, .fz)] [])))
def L_law23_MeterRuns_2_0 (R : Orc) (k : Nat) (w : Bool) (n : Nat) (x2 : List FV) (x8 : FV) (x11 : Int) (x12 : Int) (x13 : Int) (x14 : Int) (x15 : Int) (h4096_0 : Int) (h4096_1 : Int) (h4096_2 : Bool) := loopL R k w [] [2, 4, 8, 9, 11, 12, 13, 14, 15] [6] A_law23_MeterRuns_b2 n ⟨[(2, .fz (FV.sl x2)), (4, .ptr 4096 0 0), (8, .fz x8), (9, .fz FV.nilp), (11, .fz (FV.int .i64 x11)), (12, .fz (FV.int .i64 x12)), (13, .fz (FV.int .i64 x13)), (14, .fz (FV.int .i64 x14)), (15, .fz (FV.int .i64 x15))], [(4095, .dead), (4096, .var 3 true (.fz (FV.ag [(FV.int .i64 h4096_0), (FV.int .i64 h4096_1), (FV.bool h4096_2)])))]⟩
def L_law23_MeterRuns_2_1 (R : Orc) (k : Nat) (w : Bool) (n : Nat) (x2 : List FV) (x8 : FV) (x11 : Int) (x12 : Int) (x13 : Int) (x14 : Int) (x15 : Int) (h4096_0 : Int) (h4096_1 : Int) (h4096_2 : Bool) (h4097 : FV) := loopL R k w [] [2, 4, 8, 9, 11, 12, 13, 14, 15] [6] A_law23_MeterRuns_b2 n ⟨[(2, .fz (FV.sl x2)), (4, .ptr 4096 0 0), (8, .fz x8), (9, .ptr 4097 0 0), (11, .fz (FV.int .i64 x11)), (12, .fz (FV.int .i64 x12)), (13, .fz (FV.int .i64 x13)), (14, .fz (FV.int .i64 x14)), (15, .fz (FV.int .i64 x15))], [(4095, .dead), (4096, .var 3 true (.fz (FV.ag [(FV.int .i64 h4096_0), (FV.int .i64 h4096_1), (FV.bool h4096_2)]))), (4097, .var 8 true (.fz h4097))]⟩
def K_law23_MeterRuns_1 (R : Orc) (k : Nat) (w : Bool) (n : Nat) : AExit → St → Option (AExit × St) := (kBlk 2 (kBlk 1 (kSeq R k w [] A_law23_MeterRuns_s10 (kLoop R k w [] [2, 4, 8, 9, 11, 12, 13, 14, 15] [6] A_law23_MeterRuns_b2 n))))
def L_law23_MeterRuns_1_0 (R : Orc) (k : Nat) (w : Bool) (n : Nat) (x2 : List FV) (x8 : FV) (x11 : Int) (x12 : Int) (x13 : Int) (x14 : Int) (x15 : Int) (x17 : Int) (h4096_0 : Int) (h4096_1 : Int) (h4096_2 : Bool) (h4097 : FV) := loopL R k w [] [2, 4, 8, 9, 11, 12, 13, 14, 15, 16, 17] [2, 4, 6, 8, 9, 11, 12, 13, 14, 15] A_law23_MeterRuns_b1 n ⟨[(2, .fz (FV.sl x2)), (4, .ptr 4096 0 0), (8, .fz x8), (9, .fz FV.nilp), (11, .fz (FV.int .i64 x11)), (12, .fz (FV.int .i64 x12)), (13, .fz (FV.int .i64 x13)), (14, .fz (FV.int .i64 x14)), (15, .fz (FV.int .i64 x15)), (16, .ptr 4097 0 0), (17, .fz (FV.int .i64 x17))], [(4095, .dead), (4096, .var 3 true (.fz (FV.ag [(FV.int .i64 h4096_0), (FV.int .i64 h4096_1), (FV.bool h4096_2)]))), (4097, .var 3 true (.fz h4097))]⟩
def X_law23_MeterRuns_2_0 : St := ⟨[], [(4095, .dead)]⟩
def L_law23_MeterRuns_1_1 (R : Orc) (k : Nat) (w : Bool) (n : Nat) (x2 : List FV) (x8 : FV) (x11 : Int) (x12 : Int) (x13 : Int) (x14 : Int) (x15 : Int) (x17 : Int) (h4096_0 : Int) (h4096_1 : Int) (h4096_2 : Bool) (h4097 : FV) (h4098 : FV) := loopL R k w [] [2, 4, 8, 9, 11, 12, 13, 14, 15, 16, 17] [2, 4, 6, 8, 9, 11, 12, 13, 14, 15] A_law23_MeterRuns_b1 n ⟨[(2, .fz (FV.sl x2)), (4, .ptr 4096 0 0), (8, .fz x8), (9, .ptr 4097 0 0), (11, .fz (FV.int .i64 x11)), (12, .fz (FV.int .i64 x12)), (13, .fz (FV.int .i64 x13)), (14, .fz (FV.int .i64 x14)), (15, .fz (FV.int .i64 x15)), (16, .ptr 4098 0 0), (17, .fz (FV.int .i64 x17))], [(4095, .dead), (4096, .var 3 true (.fz (FV.ag [(FV.int .i64 h4096_0), (FV.int .i64 h4096_1), (FV.bool h4096_2)]))), (4097, .var 8 true (.fz h4097)), (4098, .var 3 true (.fz h4098))]⟩
def J_law23_MeterRuns_9_0 (R : Orc) (k : Nat) (w : Bool) (n : Nat) (x2 : List FV) (x8 : FV) (x11 : Int) (x12 : Int) (x13 : Int) (x14 : Int) (x15 : Int) (x17 : Int) (h4096_0 : Int) (h4096_1 : Int) (h4096_2 : Bool) (h4097 : FV) := execL R k w [] A_law23_MeterRuns_j9 (AExit × St) ⟨[(2, .fz (FV.sl x2)), (4, .ptr 4096 0 0), (8, .fz x8), (9, .fz FV.nilp), (11, .fz (FV.int .i64 x11)), (12, .fz (FV.int .i64 x12)), (13, .fz (FV.int .i64 x13)), (14, .fz (FV.int .i64 x14)), (15, .fz (FV.int .i64 x15)), (16, .ptr 4097 0 0), (17, .fz (FV.int .i64 x17))], [(4095, .dead), (4096, .var 3 true (.fz (FV.ag [(FV.int .i64 h4096_0), (FV.int .i64 h4096_1), (FV.bool h4096_2)]))), (4097, .var 3 true (.fz h4097))]⟩ (kLoop R k w [] [2, 4, 8, 9, 11, 12, 13, 14, 15, 16, 17] [2, 4, 6, 8, 9, 11, 12, 13, 14, 15] A_law23_MeterRuns_b1 n)
def X_law23_MeterRuns_1_0 (x2 : List FV) (x8 : FV) (x11 : Int) (x12 : Int) (x13 : Int) (x14 : Int) (x15 : Int) (h4096_0 : Int) (h4096_1 : Int) (h4096_2 : Bool) : St := ⟨[(2, .fz (FV.sl x2)), (4, .ptr 4096 0 0), (8, .fz x8), (9, .fz FV.nilp), (11, .fz (FV.int .i64 x11)), (12, .fz (FV.int .i64 x12)), (13, .fz (FV.int .i64 x13)), (14, .fz (FV.int .i64 x14)), (15, .fz (FV.int .i64 x15))], [(4095, .dead), (4096, .var 3 true (.fz (FV.ag [(FV.int .i64 h4096_0), (FV.int .i64 h4096_1), (FV.bool h4096_2)])))]⟩
def J_law23_MeterRuns_9_1 (R : Orc) (k : Nat) (w : Bool) (n : Nat) (x2 : List FV) (x8 : FV) (x11 : Int) (x12 : Int) (x13 : Int) (x14 : Int) (x15 : Int) (x17 : Int) (h4096_0 : Int) (h4096_1 : Int) (h4096_2 : Bool) (h4097 : FV) (h4098 : FV) := execL R k w [] A_law23_MeterRuns_j9 (AExit × St) ⟨[(2, .fz (FV.sl x2)), (4, .ptr 4096 0 0), (8, .fz x8), (9, .ptr 4097 0 0), (11, .fz (FV.int .i64 x11)), (12, .fz (FV.int .i64 x12)), (13, .fz (FV.int .i64 x13)), (14, .fz (FV.int .i64 x14)), (15, .fz (FV.int .i64 x15)), (16, .ptr 4098 0 0), (17, .fz (FV.int .i64 x17))], [(4095, .dead), (4096, .var 3 true (.fz (FV.ag [(FV.int .i64 h4096_0), (FV.int .i64 h4096_1), (FV.bool h4096_2)]))), (4097, .var 8 true (.fz h4097)), (4098, .var 3 true (.fz h4098))]⟩ (kLoop R k w [] [2, 4, 8, 9, 11, 12, 13, 14, 15, 16, 17] [2, 4, 6, 8, 9, 11, 12, 13, 14, 15] A_law23_MeterRuns_b1 n)
def X_law23_MeterRuns_1_1 (x2 : List FV) (x8 : FV) (x11 : Int) (x12 : Int) (x13 : Int) (x14 : Int) (x15 : Int) (h4096_0 : Int) (h4096_1 : Int) (h4096_2 : Bool) (h4097 : FV) : St := ⟨[(2, .fz (FV.sl x2)), (4, .ptr 4096 0 0), (8, .fz x8), (9, .ptr 4097 0 0), (11, .fz (FV.int .i64 x11)), (12, .fz (FV.int .i64 x12)), (13, .fz (FV.int .i64 x13)), (14, .fz (FV.int .i64 x14)), (15, .fz (FV.int .i64 x15))], [(4095, .dead), (4096, .var 3 true (.fz (FV.ag [(FV.int .i64 h4096_0), (FV.int .i64 h4096_1), (FV.bool h4096_2)]))), (4097, .var 8 true (.fz h4097))]⟩
def J_law23_MeterRuns_1_0 (R : Orc) (k : Nat) (w : Bool) (n : Nat) (x2 : List FV) (x8 : FV) (x11 : Int) (x12 : Int) (x13 : Int) (x14 : Int) (x15 : Int) (x17 : Int) (x18 : Bool) (x19 : Bool) (x98 : Bool) (h4096_0 : Int) (h4096_1 : Int) (h4096_2 : Bool) (h4097 : FV) := execL R k w [] A_law23_MeterRuns_j1 (AExit × St) ⟨[(2, .fz (FV.sl x2)), (4, .ptr 4096 0 0), (8, .fz x8), (9, .fz FV.nilp), (11, .fz (FV.int .i64 x11)), (12, .fz (FV.int .i64 x12)), (13, .fz (FV.int .i64 x13)), (14, .fz (FV.int .i64 x14)), (15, .fz (FV.int .i64 x15)), (16, .ptr 4097 0 0), (17, .fz (FV.int .i64 x17)), (18, .fz (FV.bool x18)), (19, .fz (FV.bool x19)), (98, .fz (FV.bool x98))], [(4095, .dead), (4096, .var 3 true (.fz (FV.ag [(FV.int .i64 h4096_0), (FV.int .i64 h4096_1), (FV.bool h4096_2)]))), (4097, .var 3 true (.fz h4097))]⟩ (kBlk 4 (kSeq R k w [] A_law23_MeterRuns_s7 (kBlk 3 (kSeq R k w [] A_law23_MeterRuns_s8 (kLoop R k w [] [2, 4, 8, 9, 11, 12, 13, 14, 15, 16, 17] [2, 4, 6, 8, 9, 11, 12, 13, 14, 15] A_law23_MeterRuns_b1 n)))))
def J_law23_MeterRuns_2_0 (R : Orc) (k : Nat) (w : Bool) (n : Nat) (x2 : List FV) (x8 : FV) (x11 : Int) (x12 : Int) (x13 : Int) (x14 : Int) (x15 : Int) (x17 : Int) (x18 : Bool) (x19 : Bool) (x120 : Bool) (h4096_0 : Int) (h4096_1 : Int) (h4096_2 : Bool) (h4097 : FV) := execL R k w [] A_law23_MeterRuns_j2 (AExit × St) ⟨[(2, .fz (FV.sl x2)), (4, .ptr 4096 0 0), (8, .fz x8), (9, .fz FV.nilp), (11, .fz (FV.int .i64 x11)), (12, .fz (FV.int .i64 x12)), (13, .fz (FV.int .i64 x13)), (14, .fz (FV.int .i64 x14)), (15, .fz (FV.int .i64 x15)), (16, .ptr 4097 0 0), (17, .fz (FV.int .i64 x17)), (18, .fz (FV.bool x18)), (19, .fz (FV.bool x19)), (120, .fz (FV.bool x120))], [(4095, .dead), (4096, .var 3 true (.fz (FV.ag [(FV.int .i64 h4096_0), (FV.int .i64 h4096_1), (FV.bool h4096_2)]))), (4097, .var 3 true (.fz h4097))]⟩ (kSeq R k w [] A_law23_MeterRuns_s4 (kBlk 4 (kSeq R k w [] A_law23_MeterRuns_s7 (kBlk 3 (kSeq R k w [] A_law23_MeterRuns_s8 (kLoop R k w [] [2, 4, 8, 9, 11, 12, 13, 14, 15, 16, 17] [2, 4, 6, 8, 9, 11, 12, 13, 14, 15] A_law23_MeterRuns_b1 n))))))
def J_law23_MeterRuns_6_0 (R : Orc) (k : Nat) (w : Bool) (n : Nat) (x2 : List FV) (x8 : FV) (x11 : Int) (x12 : Int) (x13 : Int) (x14 : Int) (x15 : Int) (x17 : Int) (x18 : Bool) (x19 : Bool) (h4096_0 : Int) (h4096_1 : Int) (h4096_2 : Bool) (h4097 : FV) := execL R k w [] A_law23_MeterRuns_j6 (AExit × St) ⟨[(2, .fz (FV.sl x2)), (4, .ptr 4096 0 0), (8, .fz x8), (9, .fz FV.nilp), (11, .fz (FV.int .i64 x11)), (12, .fz (FV.int .i64 x12)), (13, .fz (FV.int .i64 x13)), (14, .fz (FV.int .i64 x14)), (15, .fz (FV.int .i64 x15)), (16, .ptr 4097 0 0), (17, .fz (FV.int .i64 x17)), (18, .fz (FV.bool x18)), (19, .fz (FV.bool x19))], [(4095, .dead), (4096, .var 3 true (.fz (FV.ag [(FV.int .i64 h4096_0), (FV.int .i64 h4096_1), (FV.bool h4096_2)]))), (4097, .var 3 true (.fz h4097))]⟩ (kBlk 3 (kSeq R k w [] A_law23_MeterRuns_s8 (kLoop R k w [] [2, 4, 8, 9, 11, 12, 13, 14, 15, 16, 17] [2, 4, 6, 8, 9, 11, 12, 13, 14, 15] A_law23_MeterRuns_b1 n)))
def J_law23_MeterRuns_5_0 (R : Orc) (k : Nat) (w : Bool) (n : Nat) (x2 : List FV) (x8 : FV) (x11 : Int) (x12 : Int) (x13 : Int) (x14 : Int) (x15 : Int) (x17 : Int) (x18 : Bool) (x19 : Bool) (x77 : Bool) (h4096_0 : Int) (h4096_1 : Int) (h4096_2 : Bool) (h4097 : FV) := execL R k w [] A_law23_MeterRuns_j5 (AExit × St) ⟨[(2, .fz (FV.sl x2)), (4, .ptr 4096 0 0), (8, .fz x8), (9, .fz FV.nilp), (11, .fz (FV.int .i64 x11)), (12, .fz (FV.int .i64 x12)), (13, .fz (FV.int .i64 x13)), (14, .fz (FV.int .i64 x14)), (15, .fz (FV.int .i64 x15)), (16, .ptr 4097 0 0), (17, .fz (FV.int .i64 x17)), (18, .fz (FV.bool x18)), (19, .fz (FV.bool x19)), (77, .fz (FV.bool x77))], [(4095, .dead), (4096, .var 3 true (.fz (FV.ag [(FV.int .i64 h4096_0), (FV.int .i64 h4096_1), (FV.bool h4096_2)]))), (4097, .var 3 true (.fz h4097))]⟩ (kBlk 4 (kSeq R k w [] A_law23_MeterRuns_s7 (kBlk 3 (kSeq R k w [] A_law23_MeterRuns_s8 (kLoop R k w [] [2, 4, 8, 9, 11, 12, 13, 14, 15, 16, 17] [2, 4, 6, 8, 9, 11, 12, 13, 14, 15] A_law23_MeterRuns_b1 n)))))
def J_law23_MeterRuns_1_1 (R : Orc) (k : Nat) (w : Bool) (n : Nat) (x2 : List FV) (x8 : FV) (x11 : Int) (x12 : Int) (x13 : Int) (x14 : Int) (x15 : Int) (x17 : Int) (x18 : Bool) (x19 : Bool) (x98 : Bool) (h4096_0 : Int) (h4096_1 : Int) (h4096_2 : Bool) (h4097 : FV) (h4098 : FV) := execL R k w [] A_law23_MeterRuns_j1 (AExit × St) ⟨[(2, .fz (FV.sl x2)), (4, .ptr 4096 0 0), (8, .fz x8), (9, .ptr 4097 0 0), (11, .fz (FV.int .i64 x11)), (12, .fz (FV.int .i64 x12)), (13, .fz (FV.int .i64 x13)), (14, .fz (FV.int .i64 x14)), (15, .fz (FV.int .i64 x15)), (16, .ptr 4098 0 0), (17, .fz (FV.int .i64 x17)), (18, .fz (FV.bool x18)), (19, .fz (FV.bool x19)), (98, .fz (FV.bool x98))], [(4095, .dead), (4096, .var 3 true (.fz (FV.ag [(FV.int .i64 h4096_0), (FV.int .i64 h4096_1), (FV.bool h4096_2)]))), (4097, .var 8 true (.fz h4097)), (4098, .var 3 true (.fz h4098))]⟩ (kBlk 4 (kSeq R k w [] A_law23_MeterRuns_s7 (kBlk 3 (kSeq R k w [] A_law23_MeterRuns_s8 (kLoop R k w [] [2, 4, 8, 9, 11, 12, 13, 14, 15, 16, 17] [2, 4, 6, 8, 9, 11, 12, 13, 14, 15] A_law23_MeterRuns_b1 n)))))
def J_law23_MeterRuns_2_1 (R : Orc) (k : Nat) (w : Bool) (n : Nat) (x2 : List FV) (x8 : FV) (x11 : Int) (x12 : Int) (x13 : Int) (x14 : Int) (x15 : Int) (x17 : Int) (x18 : Bool) (x19 : Bool) (x120 : Bool) (h4096_0 : Int) (h4096_1 : Int) (h4096_2 : Bool) (h4097 : FV) (h4098 : FV) := execL R k w [] A_law23_MeterRuns_j2 (AExit × St) ⟨[(2, .fz (FV.sl x2)), (4, .ptr 4096 0 0), (8, .fz x8), (9, .ptr 4097 0 0), (11, .fz (FV.int .i64 x11)), (12, .fz (FV.int .i64 x12)), (13, .fz (FV.int .i64 x13)), (14, .fz (FV.int .i64 x14)), (15, .fz (FV.int .i64 x15)), (16, .ptr 4098 0 0), (17, .fz (FV.int .i64 x17)), (18, .fz (FV.bool x18)), (19, .fz (FV.bool x19)), (120, .fz (FV.bool x120))], [(4095, .dead), (4096, .var 3 true (.fz (FV.ag [(FV.int .i64 h4096_0), (FV.int .i64 h4096_1), (FV.bool h4096_2)]))), (4097, .var 8 true (.fz h4097)), (4098, .var 3 true (.fz h4098))]⟩ (kSeq R k w [] A_law23_MeterRuns_s4 (kBlk 4 (kSeq R k w [] A_law23_MeterRuns_s7 (kBlk 3 (kSeq R k w [] A_law23_MeterRuns_s8 (kLoop R k w [] [2, 4, 8, 9, 11, 12, 13, 14, 15, 16, 17] [2, 4, 6, 8, 9, 11, 12, 13, 14, 15] A_law23_MeterRuns_b1 n))))))
def J_law23_MeterRuns_6_1 (R : Orc) (k : Nat) (w : Bool) (n : Nat) (x2 : List FV) (x8 : FV) (x11 : Int) (x12 : Int) (x13 : Int) (x14 : Int) (x15 : Int) (x17 : Int) (x18 : Bool) (x19 : Bool) (h4096_0 : Int) (h4096_1 : Int) (h4096_2 : Bool) (h4097 : FV) (h4098 : FV) := execL R k w [] A_law23_MeterRuns_j6 (AExit × St) ⟨[(2, .fz (FV.sl x2)), (4, .ptr 4096 0 0), (8, .fz x8), (9, .ptr 4097 0 0), (11, .fz (FV.int .i64 x11)), (12, .fz (FV.int .i64 x12)), (13, .fz (FV.int .i64 x13)), (14, .fz (FV.int .i64 x14)), (15, .fz (FV.int .i64 x15)), (16, .ptr 4098 0 0), (17, .fz (FV.int .i64 x17)), (18, .fz (FV.bool x18)), (19, .fz (FV.bool x19))], [(4095, .dead), (4096, .var 3 true (.fz (FV.ag [(FV.int .i64 h4096_0), (FV.int .i64 h4096_1), (FV.bool h4096_2)]))), (4097, .var 8 true (.fz h4097)), (4098, .var 3 true (.fz h4098))]⟩ (kBlk 3 (kSeq R k w [] A_law23_MeterRuns_s8 (kLoop R k w [] [2, 4, 8, 9, 11, 12, 13, 14, 15, 16, 17] [2, 4, 6, 8, 9, 11, 12, 13, 14, 15] A_law23_MeterRuns_b1 n)))
def J_law23_MeterRuns_5_1 (R : Orc) (k : Nat) (w : Bool) (n : Nat) (x2 : List FV) (x8 : FV) (x11 : Int) (x12 : Int) (x13 : Int) (x14 : Int) (x15 : Int) (x17 : Int) (x18 : Bool) (x19 : Bool) (x77 : Bool) (h4096_0 : Int) (h4096_1 : Int) (h4096_2 : Bool) (h4097 : FV) (h4098 : FV) := execL R k w [] A_law23_MeterRuns_j5 (AExit × St) ⟨[(2, .fz (FV.sl x2)), (4, .ptr 4096 0 0), (8, .fz x8), (9, .ptr 4097 0 0), (11, .fz (FV.int .i64 x11)), (12, .fz (FV.int .i64 x12)), (13, .fz (FV.int .i64 x13)), (14, .fz (FV.int .i64 x14)), (15, .fz (FV.int .i64 x15)), (16, .ptr 4098 0 0), (17, .fz (FV.int .i64 x17)), (18, .fz (FV.bool x18)), (19, .fz (FV.bool x19)), (77, .fz (FV.bool x77))], [(4095, .dead), (4096, .var 3 true (.fz (FV.ag [(FV.int .i64 h4096_0), (FV.int .i64 h4096_1), (FV.bool h4096_2)]))), (4097, .var 8 true (.fz h4097)), (4098, .var 3 true (.fz h4098))]⟩ (kBlk 4 (kSeq R k w [] A_law23_MeterRuns_s7 (kBlk 3 (kSeq R k w [] A_law23_MeterRuns_s8 (kLoop R k w [] [2, 4, 8, 9, 11, 12, 13, 14, 15, 16, 17] [2, 4, 6, 8, 9, 11, 12, 13, 14, 15] A_law23_MeterRuns_b1 n)))))
def J_law23_MeterRuns_3_0 (R : Orc) (k : Nat) (w : Bool) (n : Nat) (x2 : List FV) (x8 : FV) (x11 : Int) (x12 : Int) (x13 : Int) (x14 : Int) (x15 : Int) (x17 : Int) (x18 : Bool) (x19 : Bool) (h4096_0 : Int) (h4096_1 : Int) (h4096_2 : Bool) (h4097 : FV) := execL R k w [] A_law23_MeterRuns_j3 (AExit × St) ⟨[(2, .fz (FV.sl x2)), (4, .ptr 4096 0 0), (8, .fz x8), (9, .fz FV.nilp), (11, .fz (FV.int .i64 x11)), (12, .fz (FV.int .i64 x12)), (13, .fz (FV.int .i64 x13)), (14, .fz (FV.int .i64 x14)), (15, .fz (FV.int .i64 x15)), (16, .ptr 4097 0 0), (17, .fz (FV.int .i64 x17)), (18, .fz (FV.bool x18)), (19, .fz (FV.bool x19))], [(4095, .dead), (4096, .var 3 true (.fz (FV.ag [(FV.int .i64 h4096_0), (FV.int .i64 h4096_1), (FV.bool h4096_2)]))), (4097, .var 3 true (.fz h4097))]⟩ (kBlk 4 (kSeq R k w [] A_law23_MeterRuns_s7 (kBlk 3 (kSeq R k w [] A_law23_MeterRuns_s8 (kLoop R k w [] [2, 4, 8, 9, 11, 12, 13, 14, 15, 16, 17] [2, 4, 6, 8, 9, 11, 12, 13, 14, 15] A_law23_MeterRuns_b1 n)))))
def X_law23_MeterRuns_1_2 (x2 : List FV) (x6 : Bool) (x8 : FV) (x11 : Int) (x12 : Int) (x13 : Int) (x14 : Int) (x15 : Int) (h4096_0 : Int) (h4096_1 : Int) (h4096_2 : Bool) : St := ⟨[(2, .fz (FV.sl x2)), (4, .ptr 4096 0 0), (6, .fz (FV.bool x6)), (8, .fz x8), (9, .fz FV.nilp), (11, .fz (FV.int .i64 x11)), (12, .fz (FV.int .i64 x12)), (13, .fz (FV.int .i64 x13)), (14, .fz (FV.int .i64 x14)), (15, .fz (FV.int .i64 x15))], [(4095, .dead), (4096, .var 3 true (.fz (FV.ag [(FV.int .i64 h4096_0), (FV.int .i64 h4096_1), (FV.bool h4096_2)])))]⟩
def J_law23_MeterRuns_3_1 (R : Orc) (k : Nat) (w : Bool) (n : Nat) (x2 : List FV) (x8 : FV) (x11 : Int) (x12 : Int) (x13 : Int) (x14 : Int) (x15 : Int) (x17 : Int) (x18 : Bool) (x19 : Bool) (h4096_0 : Int) (h4096_1 : Int) (h4096_2 : Bool) (h4097 : FV) (h4098 : FV) := execL R k w [] A_law23_MeterRuns_j3 (AExit × St) ⟨[(2, .fz (FV.sl x2)), (4, .ptr 4096 0 0), (8, .fz x8), (9, .ptr 4097 0 0), (11, .fz (FV.int .i64 x11)), (12, .fz (FV.int .i64 x12)), (13, .fz (FV.int .i64 x13)), (14, .fz (FV.int .i64 x14)), (15, .fz (FV.int .i64 x15)), (16, .ptr 4098 0 0), (17, .fz (FV.int .i64 x17)), (18, .fz (FV.bool x18)), (19, .fz (FV.bool x19))], [(4095, .dead), (4096, .var 3 true (.fz (FV.ag [(FV.int .i64 h4096_0), (FV.int .i64 h4096_1), (FV.bool h4096_2)]))), (4097, .var 8 true (.fz h4097)), (4098, .var 3 true (.fz h4098))]⟩ (kBlk 4 (kSeq R k w [] A_law23_MeterRuns_s7 (kBlk 3 (kSeq R k w [] A_law23_MeterRuns_s8 (kLoop R k w [] [2, 4, 8, 9, 11, 12, 13, 14, 15, 16, 17] [2, 4, 6, 8, 9, 11, 12, 13, 14, 15] A_law23_MeterRuns_b1 n)))))
def X_law23_MeterRuns_1_3 (x2 : List FV) (x6 : Bool) (x8 : FV) (x11 : Int) (x12 : Int) (x13 : Int) (x14 : Int) (x15 : Int) (h4096_0 : Int) (h4096_1 : Int) (h4096_2 : Bool) (h4097 : FV) : St := ⟨[(2, .fz (FV.sl x2)), (4, .ptr 4096 0 0), (6, .fz (FV.bool x6)), (8, .fz x8), (9, .ptr 4097 0 0), (11, .fz (FV.int .i64 x11)), (12, .fz (FV.int .i64 x12)), (13, .fz (FV.int .i64 x13)), (14, .fz (FV.int .i64 x14)), (15, .fz (FV.int .i64 x15))], [(4095, .dead), (4096, .var 3 true (.fz (FV.ag [(FV.int .i64 h4096_0), (FV.int .i64 h4096_1), (FV.bool h4096_2)]))), (4097, .var 8 true (.fz h4097))]⟩
def X_law23_MeterRuns_2_1 (x6 : Bool) : St := ⟨[(6, .fz (FV.bool x6))], [(4095, .dead)]⟩
theorem E_law23_MeterRuns (R : Orc) (k : Nat) (w : Bool) (a0 : Int) (a1_0 : Int) (a1_1 : Int) (a1_2 : Bool) (a2 : List FV) : callL R k w A_law23_MeterRuns [.fz (FV.int .i64 a0), .fz (FV.ag [(FV.int .i64 a1_0), (FV.int .i64 a1_1), (FV.bool a1_2)]), .fz (FV.sl a2)] = onR (R N_law23_of [.fz (FV.int .i64 a0)]) fun r0 => when (List.isEmpty r0.2 && allF [.fz, .fz] r0.1) (onR (R N_meter_New [.fz (TV.toF (List.getD r0.1 0 TV.em)), .fz (FV.ag [(FV.int .i64 a1_0), (FV.int .i64 a1_1), (FV.bool a1_2)])]) fun r1 => when (List.length r1.2 == 0 && (List.all r1.2 LV.isFz && List.length r1.1 == 2)) (ifB (TV.isF (List.getD r1.1 0 TV.em))
  (when (FV.isNil (TV.toF (List.getD r1.1 0 TV.em))) (when (TV.isF (List.getD r1.1 1 TV.em)) (when (FV.isInt .i64 (TV.toF (List.getD r1.1 1 TV.em))) (ifB ((FV.toInt (TV.toF (List.getD r1.1 1 TV.em))) != 0)
   (onR (R N_law23_lives []) fun r2 => when (List.isEmpty r2.2 && allF [.fz] r2.1) (when (FV.isBool (TV.toF (List.getD r2.1 0 TV.em))) (some ([.fz (FV.bool (FV.toBool (TV.toF (List.getD r2.1 0 TV.em))))], []))))
   (ifB (decide ((List.length a2 : Int) > 40))
    (onR (R N_law23_lives []) fun r3 => when (List.isEmpty r3.2 && allF [.fz] r3.1) (when (FV.isBool (TV.toF (List.getD r3.1 0 TV.em))) (some ([.fz (FV.bool (FV.toBool (TV.toF (List.getD r3.1 0 TV.em))))], []))))
    (jump w (J_law23_MeterRuns_12_0 R k w a2 (TV.toF (List.getD r0.1 1 TV.em)) a1_0 a1_1 a1_2)))))))
  (when (TV.isPv 8 true (List.getD r1.1 0 TV.em)) (when (TV.isF (List.getD r1.1 1 TV.em)) (when (FV.isInt .i64 (TV.toF (List.getD r1.1 1 TV.em))) (ifB ((FV.toInt (TV.toF (List.getD r1.1 1 TV.em))) != 0)
   (onR (R N_law23_lives []) fun r4 => when (List.isEmpty r4.2 && allF [.fz] r4.1) (when (FV.isBool (TV.toF (List.getD r4.1 0 TV.em))) (some ([.fz (FV.bool (FV.toBool (TV.toF (List.getD r4.1 0 TV.em))))], []))))
   (ifB (decide ((List.length a2 : Int) > 40))
    (onR (R N_law23_lives []) fun r5 => when (List.isEmpty r5.2 && allF [.fz] r5.1) (when (FV.isBool (TV.toF (List.getD r5.1 0 TV.em))) (some ([.fz (FV.bool (FV.toBool (TV.toF (List.getD r5.1 0 TV.em))))], []))))
    (jump w (J_law23_MeterRuns_12_1 R k w a2 (TV.toF (List.getD r0.1 1 TV.em)) a1_0 a1_1 a1_2 (TV.toV (List.getD r1.1 0 TV.em))))))))))) := by kernel_rfl
theorem J_law23_MeterRuns_12_0_eq (R : Orc) (k : Nat) (w : Bool) (x2 : List FV) (x8 : FV) (h4096_0 : Int) (h4096_1 : Int) (h4096_2 : Bool) : J_law23_MeterRuns_12_0 R k w x2 x8 h4096_0 h4096_1 h4096_2 = onR (R N_ref09_Bottom [.fz x8]) fun r6 => when (List.isEmpty r6.2 && allF [.fz] r6.1) (when (FV.isInt .i64 (TV.toF (List.getD r6.1 0 TV.em))) (onL (L_law23_MeterRuns_2_0 R k w k x2 x8 (FV.toInt (TV.toF (List.getD r6.1 0 TV.em))) h4096_0 0 0 0 h4096_0 h4096_1 h4096_2) (K_law23_MeterRuns_2 R k w))) := by kernel_rfl
theorem J_law23_MeterRuns_12_1_eq (R : Orc) (k : Nat) (w : Bool) (x2 : List FV) (x8 : FV) (h4096_0 : Int) (h4096_1 : Int) (h4096_2 : Bool) (h4097 : FV) : J_law23_MeterRuns_12_1 R k w x2 x8 h4096_0 h4096_1 h4096_2 h4097 = onR (R N_ref09_Bottom [.fz x8]) fun r7 => when (List.isEmpty r7.2 && allF [.fz] r7.1) (when (FV.isInt .i64 (TV.toF (List.getD r7.1 0 TV.em))) (onL (L_law23_MeterRuns_2_1 R k w k x2 x8 (FV.toInt (TV.toF (List.getD r7.1 0 TV.em))) h4096_0 0 0 0 h4096_0 h4096_1 h4096_2 h4097) (K_law23_MeterRuns_2 R k w))) := by kernel_rfl
theorem L_law23_MeterRuns_2_0_eq (R : Orc) (k : Nat) (w : Bool) (n : Nat) (x2 : List FV) (x8 : FV) (x11 : Int) (x12 : Int) (x13 : Int) (x14 : Int) (x15 : Int) (h4096_0 : Int) (h4096_1 : Int) (h4096_2 : Bool) : L_law23_MeterRuns_2_0 R k w (n + 1) x2 x8 x11 x12 x13 x14 x15 h4096_0 h4096_1 h4096_2 = ifB (decide (x15 < (List.length x2 : Int)))
  (when ((decide (0 ≤ x15)) && (decide (x15 < (List.length x2 : Int)))) (when (FV.fits 3 true (List.getD x2 (Int.toNat x15) FV.nilp)) (when (FV.fits 3 true (List.getD x2 (Int.toNat x15) FV.nilp)) (onL (L_law23_MeterRuns_1_0 R k w k x2 x8 x11 x12 x13 x14 x15 0 h4096_0 h4096_1 h4096_2 (List.getD x2 (Int.toNat x15) FV.nilp)) (K_law23_MeterRuns_1 R k w n)))))
  (some ((.exit 0), X_law23_MeterRuns_2_0)) := by kernel_rfl
theorem L_law23_MeterRuns_2_1_eq (R : Orc) (k : Nat) (w : Bool) (n : Nat) (x2 : List FV) (x8 : FV) (x11 : Int) (x12 : Int) (x13 : Int) (x14 : Int) (x15 : Int) (h4096_0 : Int) (h4096_1 : Int) (h4096_2 : Bool) (h4097 : FV) : L_law23_MeterRuns_2_1 R k w (n + 1) x2 x8 x11 x12 x13 x14 x15 h4096_0 h4096_1 h4096_2 h4097 = ifB (decide (x15 < (List.length x2 : Int)))
  (when ((decide (0 ≤ x15)) && (decide (x15 < (List.length x2 : Int)))) (when (FV.fits 3 true (List.getD x2 (Int.toNat x15) FV.nilp)) (when (FV.fits 3 true (List.getD x2 (Int.toNat x15) FV.nilp)) (onL (L_law23_MeterRuns_1_1 R k w k x2 x8 x11 x12 x13 x14 x15 0 h4096_0 h4096_1 h4096_2 h4097 (List.getD x2 (Int.toNat x15) FV.nilp)) (K_law23_MeterRuns_1 R k w n)))))
  (some ((.exit 0), X_law23_MeterRuns_2_0)) := by kernel_rfl
theorem L_law23_MeterRuns_1_0_eq (R : Orc) (k : Nat) (w : Bool) (n : Nat) (x2 : List FV) (x8 : FV) (x11 : Int) (x12 : Int) (x13 : Int) (x14 : Int) (x15 : Int) (x17 : Int) (h4096_0 : Int) (h4096_1 : Int) (h4096_2 : Bool) (h4097 : FV) : L_law23_MeterRuns_1_0 R k w (n + 1) x2 x8 x11 x12 x13 x14 x15 x17 h4096_0 h4096_1 h4096_2 h4097 = ifB (x17 == 0)
  (jump w (J_law23_MeterRuns_9_0 R k w n x2 x8 x11 x12 x13 x14 x15 x17 h4096_0 h4096_1 h4096_2 h4097))
  (when (FV.isAg 3 h4097) (when (FV.isInt .i64 (FV.cell h4097 2)) (ifB (decide (x17 < (FV.toInt (FV.cell h4097 2))))
   (ifB (decide (x17 < 600))
    (jump w (J_law23_MeterRuns_9_0 R k w n x2 x8 x11 x12 x13 x14 x15 x17 h4096_0 h4096_1 h4096_2 h4097))
    (some ((.exit 2), X_law23_MeterRuns_1_0 x2 x8 x11 x12 x13 x14 x15 h4096_0 h4096_1 h4096_2)))
   (some ((.exit 2), X_law23_MeterRuns_1_0 x2 x8 x11 x12 x13 x14 x15 h4096_0 h4096_1 h4096_2))))) := by kernel_rfl
theorem X_law23_MeterRuns_2_0_eq (R : Orc) (k : Nat) (w : Bool) : K_law23_MeterRuns_2 R k w (.exit 0) (X_law23_MeterRuns_2_0) = onR (R N_law23_lives []) fun r8 => when (List.isEmpty r8.2 && allF [.fz] r8.1) (when (FV.isBool (TV.toF (List.getD r8.1 0 TV.em))) (some ([.fz (FV.bool (FV.toBool (TV.toF (List.getD r8.1 0 TV.em))))], []))) := by kernel_rfl
theorem L_law23_MeterRuns_1_1_eq (R : Orc) (k : Nat) (w : Bool) (n : Nat) (x2 : List FV) (x8 : FV) (x11 : Int) (x12 : Int) (x13 : Int) (x14 : Int) (x15 : Int) (x17 : Int) (h4096_0 : Int) (h4096_1 : Int) (h4096_2 : Bool) (h4097 : FV) (h4098 : FV) : L_law23_MeterRuns_1_1 R k w (n + 1) x2 x8 x11 x12 x13 x14 x15 x17 h4096_0 h4096_1 h4096_2 h4097 h4098 = ifB (x17 == 0)
  (jump w (J_law23_MeterRuns_9_1 R k w n x2 x8 x11 x12 x13 x14 x15 x17 h4096_0 h4096_1 h4096_2 h4097 h4098))
  (when (FV.isAg 3 h4098) (when (FV.isInt .i64 (FV.cell h4098 2)) (ifB (decide (x17 < (FV.toInt (FV.cell h4098 2))))
   (ifB (decide (x17 < 600))
    (jump w (J_law23_MeterRuns_9_1 R k w n x2 x8 x11 x12 x13 x14 x15 x17 h4096_0 h4096_1 h4096_2 h4097 h4098))
    (some ((.exit 2), X_law23_MeterRuns_1_1 x2 x8 x11 x12 x13 x14 x15 h4096_0 h4096_1 h4096_2 h4097)))
   (some ((.exit 2), X_law23_MeterRuns_1_1 x2 x8 x11 x12 x13 x14 x15 h4096_0 h4096_1 h4096_2 h4097))))) := by kernel_rfl
theorem J_law23_MeterRuns_9_0_eq (R : Orc) (k : Nat) (w : Bool) (n : Nat) (x2 : List FV) (x8 : FV) (x11 : Int) (x12 : Int) (x13 : Int) (x14 : Int) (x15 : Int) (x17 : Int) (h4096_0 : Int) (h4096_1 : Int) (h4096_2 : Bool) (h4097 : FV) : J_law23_MeterRuns_9_0 R k w n x2 x8 x11 x12 x13 x14 x15 x17 h4096_0 h4096_1 h4096_2 h4097 = when (FV.isAg 3 h4097) (when (FV.isInt .i64 (FV.cell h4097 0)) (ifB ((FV.toInt (FV.cell h4097 0)) == 0)
  (when (FV.isAg 3 h4097) (when (FV.isInt .i64 (FV.cell h4097 1)) (onR (R N_meter_Meter_Spend [.fz .nilp, .fz (FV.int .i64 (FV.toInt (FV.cell h4097 1)))]) fun r9 => when (List.isEmpty r9.2 && allF [.fz] r9.1) (when (FV.isBool (TV.toF (List.getD r9.1 0 TV.em))) (ifB (x14 == 0)
   (when (FV.isAg 3 h4097) (when (FV.isInt .i64 (FV.cell h4097 1)) (ifB (decide ((FV.toInt (FV.cell h4097 1)) < 0))
    (jump w (J_law23_MeterRuns_1_0 R k w n x2 x8 x11 x12 x13 x14 x15 x17 (x14 == 0) (FV.toBool (TV.toF (List.getD r9.1 0 TV.em))) true h4096_0 h4096_1 h4096_2 h4097))
    (when (FV.isAg 3 h4097) (when (FV.isInt .i64 (FV.cell h4097 1)) (jump w (J_law23_MeterRuns_1_0 R k w n x2 x8 x11 x12 x13 x14 x15 x17 (x14 == 0) (FV.toBool (TV.toF (List.getD r9.1 0 TV.em))) (decide ((FV.toInt (FV.cell h4097 1)) > x12)) h4096_0 h4096_1 h4096_2 h4097)))))))
   (jump w (J_law23_MeterRuns_1_0 R k w n x2 x8 x11 x12 x13 x14 x15 x17 (x14 == 0) (FV.toBool (TV.toF (List.getD r9.1 0 TV.em))) false h4096_0 h4096_1 h4096_2 h4097)))))))
  (ifB ((FV.toInt (FV.cell h4097 0)) == 1)
   (when (FV.isAg 3 h4097) (when (FV.isInt .i64 (FV.cell h4097 1)) (onR (R N_meter_Meter_Raise [.fz .nilp, .fz (FV.int .i64 (FV.toInt (FV.cell h4097 1)))]) fun r10 => when (List.isEmpty r10.2 && allF [.fz] r10.1) (when (FV.isBool (TV.toF (List.getD r10.1 0 TV.em))) (ifB (x14 == 0)
    (when (FV.isAg 3 h4097) (when (FV.isInt .i64 (FV.cell h4097 1)) (ifB (decide ((FV.toInt (FV.cell h4097 1)) < 0))
     (jump w (J_law23_MeterRuns_2_0 R k w n x2 x8 x11 x12 x13 x14 x15 x17 (x14 == 0) (FV.toBool (TV.toF (List.getD r10.1 0 TV.em))) true h4096_0 h4096_1 h4096_2 h4097))
     (when (FV.isAg 3 h4097) (when (FV.isInt .i64 (FV.cell h4097 1)) (when (FV.isSl x8) (jump w (J_law23_MeterRuns_2_0 R k w n x2 x8 x11 x12 x13 x14 x15 x17 (x14 == 0) (FV.toBool (TV.toF (List.getD r10.1 0 TV.em))) (decide ((FV.toInt (FV.cell h4097 1)) ≥ (List.length (FV.toSl x8) : Int))) h4096_0 h4096_1 h4096_2 h4097))))))))
    (jump w (J_law23_MeterRuns_6_0 R k w n x2 x8 x11 x12 x13 x14 x15 x17 (x14 == 0) (FV.toBool (TV.toF (List.getD r10.1 0 TV.em))) h4096_0 h4096_1 h4096_2 h4097)))))))
   (onR (R N_meter_Meter_Tell [.fz .nilp]) fun r11 => when (List.isEmpty r11.2 && allF [.fz] r11.1) (when (FV.isBool (TV.toF (List.getD r11.1 0 TV.em))) (ifB (x14 == 0)
    (jump w (J_law23_MeterRuns_5_0 R k w n x2 x8 x11 x12 x13 x14 x15 x17 (x14 == 0) (FV.toBool (TV.toF (List.getD r11.1 0 TV.em))) (x13 == 512) h4096_0 h4096_1 h4096_2 h4097))
    (jump w (J_law23_MeterRuns_5_0 R k w n x2 x8 x11 x12 x13 x14 x15 x17 (x14 == 0) (FV.toBool (TV.toF (List.getD r11.1 0 TV.em))) false h4096_0 h4096_1 h4096_2 h4097)))))))) := by kernel_rfl
theorem X_law23_MeterRuns_1_0_eq (R : Orc) (k : Nat) (w : Bool) (n : Nat) (x2 : List FV) (x8 : FV) (x11 : Int) (x12 : Int) (x13 : Int) (x14 : Int) (x15 : Int) (h4096_0 : Int) (h4096_1 : Int) (h4096_2 : Bool) : K_law23_MeterRuns_1 R k w n (.exit 2) (X_law23_MeterRuns_1_0 x2 x8 x11 x12 x13 x14 x15 h4096_0 h4096_1 h4096_2) = L_law23_MeterRuns_2_0 R k w n x2 x8 x11 x12 x13 x14 (IntKind.wrap .i64 (x15 + 1)) h4096_0 h4096_1 h4096_2 := by kernel_rfl
theorem J_law23_MeterRuns_9_1_eq (R : Orc) (k : Nat) (w : Bool) (n : Nat) (x2 : List FV) (x8 : FV) (x11 : Int) (x12 : Int) (x13 : Int) (x14 : Int) (x15 : Int) (x17 : Int) (h4096_0 : Int) (h4096_1 : Int) (h4096_2 : Bool) (h4097 : FV) (h4098 : FV) : J_law23_MeterRuns_9_1 R k w n x2 x8 x11 x12 x13 x14 x15 x17 h4096_0 h4096_1 h4096_2 h4097 h4098 = when (FV.isAg 3 h4098) (when (FV.isInt .i64 (FV.cell h4098 0)) (ifB ((FV.toInt (FV.cell h4098 0)) == 0)
  (when (FV.isAg 3 h4098) (when (FV.isInt .i64 (FV.cell h4098 1)) (onR (R N_meter_Meter_Spend [.pv 8 true (.fz h4097), .fz (FV.int .i64 (FV.toInt (FV.cell h4098 1)))]) fun r12 => when (List.length r12.2 == 1 && (List.all r12.2 LV.isFz && List.length r12.1 == 1)) (when (TV.isF (List.getD r12.1 0 TV.em)) (when (FV.isBool (TV.toF (List.getD r12.1 0 TV.em))) (ifB (x14 == 0)
   (when (FV.isAg 3 h4098) (when (FV.isInt .i64 (FV.cell h4098 1)) (ifB (decide ((FV.toInt (FV.cell h4098 1)) < 0))
    (jump w (J_law23_MeterRuns_1_1 R k w n x2 x8 x11 x12 x13 x14 x15 x17 (x14 == 0) (FV.toBool (TV.toF (List.getD r12.1 0 TV.em))) true h4096_0 h4096_1 h4096_2 (LV.toFz (List.getD r12.2 0 LV.nils)) h4098))
    (when (FV.isAg 3 h4098) (when (FV.isInt .i64 (FV.cell h4098 1)) (jump w (J_law23_MeterRuns_1_1 R k w n x2 x8 x11 x12 x13 x14 x15 x17 (x14 == 0) (FV.toBool (TV.toF (List.getD r12.1 0 TV.em))) (decide ((FV.toInt (FV.cell h4098 1)) > x12)) h4096_0 h4096_1 h4096_2 (LV.toFz (List.getD r12.2 0 LV.nils)) h4098)))))))
   (jump w (J_law23_MeterRuns_1_1 R k w n x2 x8 x11 x12 x13 x14 x15 x17 (x14 == 0) (FV.toBool (TV.toF (List.getD r12.1 0 TV.em))) false h4096_0 h4096_1 h4096_2 (LV.toFz (List.getD r12.2 0 LV.nils)) h4098))))))))
  (ifB ((FV.toInt (FV.cell h4098 0)) == 1)
   (when (FV.isAg 3 h4098) (when (FV.isInt .i64 (FV.cell h4098 1)) (onR (R N_meter_Meter_Raise [.pv 8 true (.fz h4097), .fz (FV.int .i64 (FV.toInt (FV.cell h4098 1)))]) fun r13 => when (List.length r13.2 == 1 && (List.all r13.2 LV.isFz && List.length r13.1 == 1)) (when (TV.isF (List.getD r13.1 0 TV.em)) (when (FV.isBool (TV.toF (List.getD r13.1 0 TV.em))) (ifB (x14 == 0)
    (when (FV.isAg 3 h4098) (when (FV.isInt .i64 (FV.cell h4098 1)) (ifB (decide ((FV.toInt (FV.cell h4098 1)) < 0))
     (jump w (J_law23_MeterRuns_2_1 R k w n x2 x8 x11 x12 x13 x14 x15 x17 (x14 == 0) (FV.toBool (TV.toF (List.getD r13.1 0 TV.em))) true h4096_0 h4096_1 h4096_2 (LV.toFz (List.getD r13.2 0 LV.nils)) h4098))
     (when (FV.isAg 3 h4098) (when (FV.isInt .i64 (FV.cell h4098 1)) (when (FV.isSl x8) (jump w (J_law23_MeterRuns_2_1 R k w n x2 x8 x11 x12 x13 x14 x15 x17 (x14 == 0) (FV.toBool (TV.toF (List.getD r13.1 0 TV.em))) (decide ((FV.toInt (FV.cell h4098 1)) ≥ (List.length (FV.toSl x8) : Int))) h4096_0 h4096_1 h4096_2 (LV.toFz (List.getD r13.2 0 LV.nils)) h4098))))))))
    (jump w (J_law23_MeterRuns_6_1 R k w n x2 x8 x11 x12 x13 x14 x15 x17 (x14 == 0) (FV.toBool (TV.toF (List.getD r13.1 0 TV.em))) h4096_0 h4096_1 h4096_2 (LV.toFz (List.getD r13.2 0 LV.nils)) h4098))))))))
   (onR (R N_meter_Meter_Tell [.pv 8 true (.fz h4097)]) fun r14 => when (List.length r14.2 == 1 && (List.all r14.2 LV.isFz && List.length r14.1 == 1)) (when (TV.isF (List.getD r14.1 0 TV.em)) (when (FV.isBool (TV.toF (List.getD r14.1 0 TV.em))) (ifB (x14 == 0)
    (jump w (J_law23_MeterRuns_5_1 R k w n x2 x8 x11 x12 x13 x14 x15 x17 (x14 == 0) (FV.toBool (TV.toF (List.getD r14.1 0 TV.em))) (x13 == 512) h4096_0 h4096_1 h4096_2 (LV.toFz (List.getD r14.2 0 LV.nils)) h4098))
    (jump w (J_law23_MeterRuns_5_1 R k w n x2 x8 x11 x12 x13 x14 x15 x17 (x14 == 0) (FV.toBool (TV.toF (List.getD r14.1 0 TV.em))) false h4096_0 h4096_1 h4096_2 (LV.toFz (List.getD r14.2 0 LV.nils)) h4098))))))))) := by kernel_rfl
theorem X_law23_MeterRuns_1_1_eq (R : Orc) (k : Nat) (w : Bool) (n : Nat) (x2 : List FV) (x8 : FV) (x11 : Int) (x12 : Int) (x13 : Int) (x14 : Int) (x15 : Int) (h4096_0 : Int) (h4096_1 : Int) (h4096_2 : Bool) (h4097 : FV) : K_law23_MeterRuns_1 R k w n (.exit 2) (X_law23_MeterRuns_1_1 x2 x8 x11 x12 x13 x14 x15 h4096_0 h4096_1 h4096_2 h4097) = L_law23_MeterRuns_2_1 R k w n x2 x8 x11 x12 x13 x14 (IntKind.wrap .i64 (x15 + 1)) h4096_0 h4096_1 h4096_2 h4097 := by kernel_rfl
theorem J_law23_MeterRuns_1_0_eq (R : Orc) (k : Nat) (w : Bool) (n : Nat) (x2 : List FV) (x8 : FV) (x11 : Int) (x12 : Int) (x13 : Int) (x14 : Int) (x15 : Int) (x17 : Int) (x18 : Bool) (x19 : Bool) (x98 : Bool) (h4096_0 : Int) (h4096_1 : Int) (h4096_2 : Bool) (h4097 : FV) : J_law23_MeterRuns_1_0 R k w n x2 x8 x11 x12 x13 x14 x15 x17 x18 x19 x98 h4096_0 h4096_1 h4096_2 h4097 = ifB x98
  (jump w (J_law23_MeterRuns_6_0 R k w n x2 x8 x11 x12 x13 1 x15 x17 false x19 h4096_0 h4096_1 h4096_2 h4097))
  (ifB x18
   (when (FV.isAg 3 h4097) (when (FV.isInt .i64 (FV.cell h4097 1)) (jump w (J_law23_MeterRuns_6_0 R k w n x2 x8 x11 (IntKind.wrap .i64 (x12 - (FV.toInt (FV.cell h4097 1)))) x13 x14 x15 x17 x18 x19 h4096_0 h4096_1 h4096_2 h4097))))
   (jump w (J_law23_MeterRuns_6_0 R k w n x2 x8 x11 x12 x13 x14 x15 x17 x18 x19 h4096_0 h4096_1 h4096_2 h4097))) := by kernel_rfl
theorem J_law23_MeterRuns_2_0_eq (R : Orc) (k : Nat) (w : Bool) (n : Nat) (x2 : List FV) (x8 : FV) (x11 : Int) (x12 : Int) (x13 : Int) (x14 : Int) (x15 : Int) (x17 : Int) (x18 : Bool) (x19 : Bool) (x120 : Bool) (h4096_0 : Int) (h4096_1 : Int) (h4096_2 : Bool) (h4097 : FV) : J_law23_MeterRuns_2_0 R k w n x2 x8 x11 x12 x13 x14 x15 x17 x18 x19 x120 h4096_0 h4096_1 h4096_2 h4097 = ifB x120
  (onR (R N_ref09_Top [.fz x8]) fun r15 => when (List.isEmpty r15.2 && allF [.fz] r15.1) (when (FV.isInt .i64 (TV.toF (List.getD r15.1 0 TV.em))) (jump w (J_law23_MeterRuns_3_0 R k w n x2 x8 (FV.toInt (TV.toF (List.getD r15.1 0 TV.em))) x12 x13 x14 x15 x17 x18 x19 h4096_0 h4096_1 h4096_2 h4097))))
  (when (FV.isAg 3 h4097) (when (FV.isInt .i64 (FV.cell h4097 1)) (onR (R N_ref09_Join [.fz x8, .fz (FV.int .i64 x11), .fz (FV.int .i64 (FV.toInt (FV.cell h4097 1)))]) fun r16 => when (List.isEmpty r16.2 && allF [.fz] r16.1) (when (FV.isInt .i64 (TV.toF (List.getD r16.1 0 TV.em))) (jump w (J_law23_MeterRuns_3_0 R k w n x2 x8 (FV.toInt (TV.toF (List.getD r16.1 0 TV.em))) x12 x13 x14 x15 x17 x18 x19 h4096_0 h4096_1 h4096_2 h4097)))))) := by kernel_rfl
theorem J_law23_MeterRuns_6_0_eq (R : Orc) (k : Nat) (w : Bool) (n : Nat) (x2 : List FV) (x8 : FV) (x11 : Int) (x12 : Int) (x13 : Int) (x14 : Int) (x15 : Int) (x17 : Int) (x18 : Bool) (x19 : Bool) (h4096_0 : Int) (h4096_1 : Int) (h4096_2 : Bool) (h4097 : FV) : J_law23_MeterRuns_6_0 R k w n x2 x8 x11 x12 x13 x14 x15 x17 x18 x19 h4096_0 h4096_1 h4096_2 h4097 = ifB (!(x19 == x18))
  (some (.ret, X_law23_MeterRuns_1_2 x2 false x8 x11 x12 x13 x14 x15 h4096_0 h4096_1 h4096_2))
  (onR (R N_meter_Meter_End [.fz .nilp]) fun r17 => when (List.isEmpty r17.2 && allF [.fz] r17.1) (when (FV.isInt .i64 (TV.toF (List.getD r17.1 0 TV.em))) (ifB ((FV.toInt (TV.toF (List.getD r17.1 0 TV.em))) != x14)
   (some (.ret, X_law23_MeterRuns_1_2 x2 false x8 x11 x12 x13 x14 x15 h4096_0 h4096_1 h4096_2))
   (onR (R N_meter_Meter_Label [.fz .nilp]) fun r18 => when (List.isEmpty r18.2 && allF [.fz] r18.1) (when (FV.isInt .i64 (TV.toF (List.getD r18.1 0 TV.em))) (ifB ((FV.toInt (TV.toF (List.getD r18.1 0 TV.em))) != x11)
    (some (.ret, X_law23_MeterRuns_1_2 x2 false x8 x11 x12 x13 x14 x15 h4096_0 h4096_1 h4096_2))
    (onR (R N_meter_Meter_Left [.fz .nilp]) fun r19 => when (List.isEmpty r19.2 && allF [.fz] r19.1) (when (FV.isInt .i64 (TV.toF (List.getD r19.1 0 TV.em))) (ifB ((FV.toInt (TV.toF (List.getD r19.1 0 TV.em))) != x12)
     (some (.ret, X_law23_MeterRuns_1_2 x2 false x8 x11 x12 x13 x14 x15 h4096_0 h4096_1 h4096_2))
     (L_law23_MeterRuns_1_0 R k w n x2 x8 x11 x12 x13 x14 x15 (IntKind.wrap .i64 (x17 + 1)) h4096_0 h4096_1 h4096_2 h4097)))))))))) := by kernel_rfl
theorem J_law23_MeterRuns_5_0_eq (R : Orc) (k : Nat) (w : Bool) (n : Nat) (x2 : List FV) (x8 : FV) (x11 : Int) (x12 : Int) (x13 : Int) (x14 : Int) (x15 : Int) (x17 : Int) (x18 : Bool) (x19 : Bool) (x77 : Bool) (h4096_0 : Int) (h4096_1 : Int) (h4096_2 : Bool) (h4097 : FV) : J_law23_MeterRuns_5_0 R k w n x2 x8 x11 x12 x13 x14 x15 x17 x18 x19 x77 h4096_0 h4096_1 h4096_2 h4097 = ifB x77
  (jump w (J_law23_MeterRuns_6_0 R k w n x2 x8 x11 x12 x13 3 x15 x17 false x19 h4096_0 h4096_1 h4096_2 h4097))
  (ifB x18
   (jump w (J_law23_MeterRuns_6_0 R k w n x2 x8 x11 x12 (IntKind.wrap .i64 (x13 + 1)) x14 x15 x17 x18 x19 h4096_0 h4096_1 h4096_2 h4097))
   (jump w (J_law23_MeterRuns_6_0 R k w n x2 x8 x11 x12 x13 x14 x15 x17 x18 x19 h4096_0 h4096_1 h4096_2 h4097))) := by kernel_rfl
theorem J_law23_MeterRuns_1_1_eq (R : Orc) (k : Nat) (w : Bool) (n : Nat) (x2 : List FV) (x8 : FV) (x11 : Int) (x12 : Int) (x13 : Int) (x14 : Int) (x15 : Int) (x17 : Int) (x18 : Bool) (x19 : Bool) (x98 : Bool) (h4096_0 : Int) (h4096_1 : Int) (h4096_2 : Bool) (h4097 : FV) (h4098 : FV) : J_law23_MeterRuns_1_1 R k w n x2 x8 x11 x12 x13 x14 x15 x17 x18 x19 x98 h4096_0 h4096_1 h4096_2 h4097 h4098 = ifB x98
  (jump w (J_law23_MeterRuns_6_1 R k w n x2 x8 x11 x12 x13 1 x15 x17 false x19 h4096_0 h4096_1 h4096_2 h4097 h4098))
  (ifB x18
   (when (FV.isAg 3 h4098) (when (FV.isInt .i64 (FV.cell h4098 1)) (jump w (J_law23_MeterRuns_6_1 R k w n x2 x8 x11 (IntKind.wrap .i64 (x12 - (FV.toInt (FV.cell h4098 1)))) x13 x14 x15 x17 x18 x19 h4096_0 h4096_1 h4096_2 h4097 h4098))))
   (jump w (J_law23_MeterRuns_6_1 R k w n x2 x8 x11 x12 x13 x14 x15 x17 x18 x19 h4096_0 h4096_1 h4096_2 h4097 h4098))) := by kernel_rfl
theorem J_law23_MeterRuns_2_1_eq (R : Orc) (k : Nat) (w : Bool) (n : Nat) (x2 : List FV) (x8 : FV) (x11 : Int) (x12 : Int) (x13 : Int) (x14 : Int) (x15 : Int) (x17 : Int) (x18 : Bool) (x19 : Bool) (x120 : Bool) (h4096_0 : Int) (h4096_1 : Int) (h4096_2 : Bool) (h4097 : FV) (h4098 : FV) : J_law23_MeterRuns_2_1 R k w n x2 x8 x11 x12 x13 x14 x15 x17 x18 x19 x120 h4096_0 h4096_1 h4096_2 h4097 h4098 = ifB x120
  (onR (R N_ref09_Top [.fz x8]) fun r20 => when (List.isEmpty r20.2 && allF [.fz] r20.1) (when (FV.isInt .i64 (TV.toF (List.getD r20.1 0 TV.em))) (jump w (J_law23_MeterRuns_3_1 R k w n x2 x8 (FV.toInt (TV.toF (List.getD r20.1 0 TV.em))) x12 x13 x14 x15 x17 x18 x19 h4096_0 h4096_1 h4096_2 h4097 h4098))))
  (when (FV.isAg 3 h4098) (when (FV.isInt .i64 (FV.cell h4098 1)) (onR (R N_ref09_Join [.fz x8, .fz (FV.int .i64 x11), .fz (FV.int .i64 (FV.toInt (FV.cell h4098 1)))]) fun r21 => when (List.isEmpty r21.2 && allF [.fz] r21.1) (when (FV.isInt .i64 (TV.toF (List.getD r21.1 0 TV.em))) (jump w (J_law23_MeterRuns_3_1 R k w n x2 x8 (FV.toInt (TV.toF (List.getD r21.1 0 TV.em))) x12 x13 x14 x15 x17 x18 x19 h4096_0 h4096_1 h4096_2 h4097 h4098)))))) := by kernel_rfl
theorem J_law23_MeterRuns_6_1_eq (R : Orc) (k : Nat) (w : Bool) (n : Nat) (x2 : List FV) (x8 : FV) (x11 : Int) (x12 : Int) (x13 : Int) (x14 : Int) (x15 : Int) (x17 : Int) (x18 : Bool) (x19 : Bool) (h4096_0 : Int) (h4096_1 : Int) (h4096_2 : Bool) (h4097 : FV) (h4098 : FV) : J_law23_MeterRuns_6_1 R k w n x2 x8 x11 x12 x13 x14 x15 x17 x18 x19 h4096_0 h4096_1 h4096_2 h4097 h4098 = ifB (!(x19 == x18))
  (some (.ret, X_law23_MeterRuns_1_3 x2 false x8 x11 x12 x13 x14 x15 h4096_0 h4096_1 h4096_2 h4097))
  (onR (R N_meter_Meter_End [.pv 8 true (.fz h4097)]) fun r22 => when (List.length r22.2 == 1 && (List.all r22.2 LV.isFz && List.length r22.1 == 1)) (when (TV.isF (List.getD r22.1 0 TV.em)) (when (FV.isInt .i64 (TV.toF (List.getD r22.1 0 TV.em))) (ifB ((FV.toInt (TV.toF (List.getD r22.1 0 TV.em))) != x14)
   (some (.ret, X_law23_MeterRuns_1_3 x2 false x8 x11 x12 x13 x14 x15 h4096_0 h4096_1 h4096_2 (LV.toFz (List.getD r22.2 0 LV.nils))))
   (onR (R N_meter_Meter_Label [.pv 8 true (.fz (LV.toFz (List.getD r22.2 0 LV.nils)))]) fun r23 => when (List.length r23.2 == 1 && (List.all r23.2 LV.isFz && List.length r23.1 == 1)) (when (TV.isF (List.getD r23.1 0 TV.em)) (when (FV.isInt .i64 (TV.toF (List.getD r23.1 0 TV.em))) (ifB ((FV.toInt (TV.toF (List.getD r23.1 0 TV.em))) != x11)
    (some (.ret, X_law23_MeterRuns_1_3 x2 false x8 x11 x12 x13 x14 x15 h4096_0 h4096_1 h4096_2 (LV.toFz (List.getD r23.2 0 LV.nils))))
    (onR (R N_meter_Meter_Left [.pv 8 true (.fz (LV.toFz (List.getD r23.2 0 LV.nils)))]) fun r24 => when (List.length r24.2 == 1 && (List.all r24.2 LV.isFz && List.length r24.1 == 1)) (when (TV.isF (List.getD r24.1 0 TV.em)) (when (FV.isInt .i64 (TV.toF (List.getD r24.1 0 TV.em))) (ifB ((FV.toInt (TV.toF (List.getD r24.1 0 TV.em))) != x12)
     (some (.ret, X_law23_MeterRuns_1_3 x2 false x8 x11 x12 x13 x14 x15 h4096_0 h4096_1 h4096_2 (LV.toFz (List.getD r24.2 0 LV.nils))))
     (L_law23_MeterRuns_1_1 R k w n x2 x8 x11 x12 x13 x14 x15 (IntKind.wrap .i64 (x17 + 1)) h4096_0 h4096_1 h4096_2 (LV.toFz (List.getD r24.2 0 LV.nils)) h4098))))))))))))) := by kernel_rfl
theorem J_law23_MeterRuns_5_1_eq (R : Orc) (k : Nat) (w : Bool) (n : Nat) (x2 : List FV) (x8 : FV) (x11 : Int) (x12 : Int) (x13 : Int) (x14 : Int) (x15 : Int) (x17 : Int) (x18 : Bool) (x19 : Bool) (x77 : Bool) (h4096_0 : Int) (h4096_1 : Int) (h4096_2 : Bool) (h4097 : FV) (h4098 : FV) : J_law23_MeterRuns_5_1 R k w n x2 x8 x11 x12 x13 x14 x15 x17 x18 x19 x77 h4096_0 h4096_1 h4096_2 h4097 h4098 = ifB x77
  (jump w (J_law23_MeterRuns_6_1 R k w n x2 x8 x11 x12 x13 3 x15 x17 false x19 h4096_0 h4096_1 h4096_2 h4097 h4098))
  (ifB x18
   (jump w (J_law23_MeterRuns_6_1 R k w n x2 x8 x11 x12 (IntKind.wrap .i64 (x13 + 1)) x14 x15 x17 x18 x19 h4096_0 h4096_1 h4096_2 h4097 h4098))
   (jump w (J_law23_MeterRuns_6_1 R k w n x2 x8 x11 x12 x13 x14 x15 x17 x18 x19 h4096_0 h4096_1 h4096_2 h4097 h4098))) := by kernel_rfl
theorem J_law23_MeterRuns_3_0_eq (R : Orc) (k : Nat) (w : Bool) (n : Nat) (x2 : List FV) (x8 : FV) (x11 : Int) (x12 : Int) (x13 : Int) (x14 : Int) (x15 : Int) (x17 : Int) (x18 : Bool) (x19 : Bool) (h4096_0 : Int) (h4096_1 : Int) (h4096_2 : Bool) (h4097 : FV) : J_law23_MeterRuns_3_0 R k w n x2 x8 x11 x12 x13 x14 x15 x17 x18 x19 h4096_0 h4096_1 h4096_2 h4097 = ifB h4096_2
  (when (FV.isSl x8) (when ((decide (0 ≤ x11)) && (decide (x11 < (List.length (FV.toSl x8) : Int)))) (when (FV.fits 1 false (List.getD (FV.toSl x8) (Int.toNat x11) FV.nilp)) (when (FV.isSl (List.getD (FV.toSl x8) (Int.toNat x11) FV.nilp)) (when ((decide (0 ≤ h4096_1)) && (decide (h4096_1 < (List.length (FV.toSl (List.getD (FV.toSl x8) (Int.toNat x11) FV.nilp)) : Int)))) (when (FV.fits 1 false (List.getD (FV.toSl (List.getD (FV.toSl x8) (Int.toNat x11) FV.nilp)) (Int.toNat h4096_1) FV.nilp)) (when (FV.isBool (List.getD (FV.toSl (List.getD (FV.toSl x8) (Int.toNat x11) FV.nilp)) (Int.toNat h4096_1) FV.nilp)) (ifB (!(FV.toBool (List.getD (FV.toSl (List.getD (FV.toSl x8) (Int.toNat x11) FV.nilp)) (Int.toNat h4096_1) FV.nilp)))
   (jump w (J_law23_MeterRuns_6_0 R k w n x2 x8 x11 x12 x13 2 x15 x17 false x19 h4096_0 h4096_1 h4096_2 h4097))
   (jump w (J_law23_MeterRuns_6_0 R k w n x2 x8 x11 x12 x13 x14 x15 x17 x18 x19 h4096_0 h4096_1 h4096_2 h4097))))))))))
  (jump w (J_law23_MeterRuns_6_0 R k w n x2 x8 x11 x12 x13 x14 x15 x17 x18 x19 h4096_0 h4096_1 h4096_2 h4097)) := by kernel_rfl
theorem X_law23_MeterRuns_1_2_eq (R : Orc) (k : Nat) (w : Bool) (n : Nat) (x2 : List FV) (x6 : Bool) (x8 : FV) (x11 : Int) (x12 : Int) (x13 : Int) (x14 : Int) (x15 : Int) (h4096_0 : Int) (h4096_1 : Int) (h4096_2 : Bool) : K_law23_MeterRuns_1 R k w n .ret (X_law23_MeterRuns_1_2 x2 x6 x8 x11 x12 x13 x14 x15 h4096_0 h4096_1 h4096_2) = some (.ret, X_law23_MeterRuns_2_1 x6) := by kernel_rfl
theorem J_law23_MeterRuns_3_1_eq (R : Orc) (k : Nat) (w : Bool) (n : Nat) (x2 : List FV) (x8 : FV) (x11 : Int) (x12 : Int) (x13 : Int) (x14 : Int) (x15 : Int) (x17 : Int) (x18 : Bool) (x19 : Bool) (h4096_0 : Int) (h4096_1 : Int) (h4096_2 : Bool) (h4097 : FV) (h4098 : FV) : J_law23_MeterRuns_3_1 R k w n x2 x8 x11 x12 x13 x14 x15 x17 x18 x19 h4096_0 h4096_1 h4096_2 h4097 h4098 = ifB h4096_2
  (when (FV.isSl x8) (when ((decide (0 ≤ x11)) && (decide (x11 < (List.length (FV.toSl x8) : Int)))) (when (FV.fits 1 false (List.getD (FV.toSl x8) (Int.toNat x11) FV.nilp)) (when (FV.isSl (List.getD (FV.toSl x8) (Int.toNat x11) FV.nilp)) (when ((decide (0 ≤ h4096_1)) && (decide (h4096_1 < (List.length (FV.toSl (List.getD (FV.toSl x8) (Int.toNat x11) FV.nilp)) : Int)))) (when (FV.fits 1 false (List.getD (FV.toSl (List.getD (FV.toSl x8) (Int.toNat x11) FV.nilp)) (Int.toNat h4096_1) FV.nilp)) (when (FV.isBool (List.getD (FV.toSl (List.getD (FV.toSl x8) (Int.toNat x11) FV.nilp)) (Int.toNat h4096_1) FV.nilp)) (ifB (!(FV.toBool (List.getD (FV.toSl (List.getD (FV.toSl x8) (Int.toNat x11) FV.nilp)) (Int.toNat h4096_1) FV.nilp)))
   (jump w (J_law23_MeterRuns_6_1 R k w n x2 x8 x11 x12 x13 2 x15 x17 false x19 h4096_0 h4096_1 h4096_2 h4097 h4098))
   (jump w (J_law23_MeterRuns_6_1 R k w n x2 x8 x11 x12 x13 x14 x15 x17 x18 x19 h4096_0 h4096_1 h4096_2 h4097 h4098))))))))))
  (jump w (J_law23_MeterRuns_6_1 R k w n x2 x8 x11 x12 x13 x14 x15 x17 x18 x19 h4096_0 h4096_1 h4096_2 h4097 h4098)) := by kernel_rfl
theorem X_law23_MeterRuns_1_3_eq (R : Orc) (k : Nat) (w : Bool) (n : Nat) (x2 : List FV) (x6 : Bool) (x8 : FV) (x11 : Int) (x12 : Int) (x13 : Int) (x14 : Int) (x15 : Int) (h4096_0 : Int) (h4096_1 : Int) (h4096_2 : Bool) (h4097 : FV) : K_law23_MeterRuns_1 R k w n .ret (X_law23_MeterRuns_1_3 x2 x6 x8 x11 x12 x13 x14 x15 h4096_0 h4096_1 h4096_2 h4097) = some (.ret, X_law23_MeterRuns_2_1 x6) := by kernel_rfl
theorem X_law23_MeterRuns_2_1_eq (R : Orc) (k : Nat) (w : Bool) (x6 : Bool) : K_law23_MeterRuns_2 R k w .ret (X_law23_MeterRuns_2_1 x6) = some ([.fz (FV.bool x6)], []) := by kernel_rfl
end Go.Ab
