-- Written by a program of the session, out of the translation. Lean checks it.
import Derived.Test.YtpgngeagdphhfaaA0
namespace Go.Ab
set_option linter.unusedVariables false
set_option maxRecDepth 100000
/-! keyhole/keyholelaw01.LevelMakes -/
def A_law01_LevelMakes : AFunc := ⟨2, [(.tmp 4, .fz)], .seq (.region [⟨(some 2), .box 3 true (.t 0), none, none⟩,
  ⟨(some 4), .mov (.c (.fz (.bool false))), none, some .bool⟩])
 (.seq (.seq (.region [⟨(some 7), .load 3 true (.t 2), none, none⟩,
    ⟨(some 8), .call N_law01_light [((.t 7), .fz)] [.fz], none, some .bool⟩,
    ⟨(some 9), .notB (.t 8), none, some .bool⟩])
   (.cond (.t 9) (.seq (.region [⟨(some 10), .call N_law01_lives [] [.fz], none, some .bool⟩,
      ⟨(some 4), .mov (.t 10), none, some .bool⟩])
     (.ret))
    (.skip)))
  (.seq (.region [⟨(some 12), .load 3 true (.t 2), none, none⟩,
    ⟨(some 13), .call N_level_New [((.t 12), .fz)] [.fz, .fz], none, none⟩,
    ⟨(some 11), .mov (.t 13), none, none⟩,
    ⟨(some 14), .extract (.t 11) 0, none, none⟩,
    ⟨(some 15), .extract (.t 11) 1, none, some (.int .i64)⟩,
    ⟨(some 5), .mov (.t 14), none, none⟩,
    ⟨(some 6), .mov (.t 15), none, some (.int .i64)⟩])
   (.seq (.region [⟨(some 16), .mov (.t 6), none, some (.int .i64)⟩,
     ⟨(some 17), .load 3 true (.t 2), none, none⟩,
     ⟨(some 18), .call N_ref01_Check [((.t 17), .fz)] [.fz], none, some (.int .i64)⟩,
     ⟨(some 19), .binI .eql .i64 (.t 16) (.t 18), none, some .bool⟩,
     ⟨(some 20), .mov (.t 19), none, some .bool⟩,
     ⟨(some 21), .mov (.t 5), (some (20, true)), none⟩,
     ⟨(some 22), .eqNil true (.t 21), (some (20, true)), some .bool⟩,
     ⟨(some 23), .mov (.t 6), (some (20, true)), some (.int .i64)⟩,
     ⟨(some 24), .binI .eql .i64 (.t 23) (.c (.fz (.int .i64 0))), (some (20, true)), some .bool⟩,
     ⟨(some 25), .binB false (.t 22) (.t 24), (some (20, true)), some .bool⟩,
     ⟨(some 26), .pick (.t 20) (.t 25) (.c (.fz (.bool false))), none, some .bool⟩,
     ⟨(some 27), .mov (.t 26), none, some .bool⟩,
     ⟨(some 28), .mov (.t 1), (some (27, true)), some .str⟩,
     ⟨(some 29), .call N_level_Name [((.t 28), .fz)] [.fz], (some (27, true)), some .bool⟩,
     ⟨(some 30), .mov (.t 1), (some (27, true)), some .str⟩,
     ⟨(some 31), .call N_ref01_Name [((.t 30), .fz)] [.fz], (some (27, true)), some .bool⟩,
     ⟨(some 32), .binB false (.t 29) (.t 31), (some (27, true)), some .bool⟩,
     ⟨(some 33), .pick (.t 27) (.t 32) (.c (.fz (.bool false))), none, some .bool⟩,
     ⟨(some 34), .mov (.t 33), none, some .bool⟩,
     ⟨(some 35), .call N_law01_lives [] [.fz], (some (34, true)), some .bool⟩,
     ⟨(some 36), .pick (.t 34) (.t 35) (.c (.fz (.bool false))), none, some .bool⟩,
     ⟨(some 4), .mov (.t 36), none, some .bool⟩])
    (.ret))))⟩
theorem E_law01_LevelMakes (R : Orc) (k : Nat) (w : Bool) (a0_0 : List FV) (a0_1 : List FV) (a0_2 : List FV) (a1 : ByteArray) : callL R k w A_law01_LevelMakes [.fz (FV.ag [(FV.sl a0_0), (FV.sl a0_1), (FV.sl a0_2)]), .fz (FV.str a1)] = onR (R N_law01_light [.fz (FV.ag [(FV.sl a0_0), (FV.sl a0_1), (FV.sl a0_2)])]) fun r0 => when (List.isEmpty r0.2 && allF [.fz] r0.1) (when (FV.isBool (TV.toF (List.getD r0.1 0 TV.em))) (ifB (!(FV.toBool (TV.toF (List.getD r0.1 0 TV.em))))
  (onR (R N_law01_lives []) fun r1 => when (List.isEmpty r1.2 && allF [.fz] r1.1) (when (FV.isBool (TV.toF (List.getD r1.1 0 TV.em))) (some ([.fz (FV.bool (FV.toBool (TV.toF (List.getD r1.1 0 TV.em))))], []))))
  (onR (R N_level_New [.fz (FV.ag [(FV.sl a0_0), (FV.sl a0_1), (FV.sl a0_2)])]) fun r2 => when (List.isEmpty r2.2 && allF [.fz, .fz] r2.1) (when (FV.isInt .i64 (TV.toF (List.getD r2.1 1 TV.em))) (onR (R N_ref01_Check [.fz (FV.ag [(FV.sl a0_0), (FV.sl a0_1), (FV.sl a0_2)])]) fun r3 => when (List.isEmpty r3.2 && allF [.fz] r3.1) (when (FV.isInt .i64 (TV.toF (List.getD r3.1 0 TV.em))) (ifB ((FV.toInt (TV.toF (List.getD r2.1 1 TV.em))) == (FV.toInt (TV.toF (List.getD r3.1 0 TV.em))))
   (when (FV.isPt (TV.toF (List.getD r2.1 0 TV.em)) || FV.isNil (TV.toF (List.getD r2.1 0 TV.em))) (ifB ((!(FV.isNil (TV.toF (List.getD r2.1 0 TV.em)))) == ((FV.toInt (TV.toF (List.getD r2.1 1 TV.em))) == 0))
    (onR (R N_level_Name [.fz (FV.str a1)]) fun r4 => when (List.isEmpty r4.2 && allF [.fz] r4.1) (when (FV.isBool (TV.toF (List.getD r4.1 0 TV.em))) (onR (R N_ref01_Name [.fz (FV.str a1)]) fun r5 => when (List.isEmpty r5.2 && allF [.fz] r5.1) (when (FV.isBool (TV.toF (List.getD r5.1 0 TV.em))) (ifB ((FV.toBool (TV.toF (List.getD r4.1 0 TV.em))) == (FV.toBool (TV.toF (List.getD r5.1 0 TV.em))))
     (onR (R N_law01_lives []) fun r6 => when (List.isEmpty r6.2 && allF [.fz] r6.1) (when (FV.isBool (TV.toF (List.getD r6.1 0 TV.em))) (some ([.fz (FV.bool (FV.toBool (TV.toF (List.getD r6.1 0 TV.em))))], []))))
     (some ([.fz (FV.bool false)], [])))))))
    (some ([.fz (FV.bool false)], []))))
   (some ([.fz (FV.bool false)], []))))))))) := by kernel_rfl
/-! keyhole/keyholelaw01.LevelTables -/
def A_law01_LevelTables_b1 : ACode := .seq (.seq (.region [⟨(some 39), .mov (.t 7), none, some (.int .i64)⟩,
   ⟨(some 40), .mov (.t 5), none, none⟩,
   ⟨(some 41), .len (.sl 1 false) (.t 40), none, some (.int .i64)⟩,
   ⟨(some 42), .binI .lss .i64 (.t 39) (.t 41), none, some .bool⟩])
  (.cond (.t 42) (.skip)
   (.exit 2)))
 (.seq (.block 3 (.seq (.draws [⟨⟨(some 45), .mov (.t 3), none, none⟩, []⟩,
     ⟨⟨(some 46), .mov (.t 6), none, some (.int .i64)⟩, []⟩,
     ⟨⟨(some 47), .mov (.t 7), none, some (.int .i64)⟩, []⟩,
     ⟨⟨(some 48), .call N_level_Lattice_Leq [((.t 45), .fz), ((.t 46), .fz), ((.t 47), .fz)] [.fz], none, some .bool⟩, [0, 1, 2]⟩,
     ⟨⟨(some 49), .mov (.t 5), none, none⟩, []⟩,
     ⟨⟨(some 50), .mov (.t 6), none, some (.int .i64)⟩, []⟩,
     ⟨⟨(some 51), .iadr (.sl 1 false) (.t 49) (.t 50), none, none⟩, [4, 5]⟩,
     ⟨⟨(some 52), .load 1 false (.t 51), none, none⟩, [6]⟩,
     ⟨⟨(some 53), .mov (.t 7), none, some (.int .i64)⟩, []⟩,
     ⟨⟨(some 54), .iadr (.sl 1 false) (.t 52) (.t 53), none, none⟩, [7, 8]⟩,
     ⟨⟨(some 55), .load 1 false (.t 54), none, some .bool⟩, [9]⟩,
     ⟨⟨(some 56), .binB true (.t 48) (.t 55), none, some .bool⟩, [3, 10]⟩,
     ⟨⟨(some 57), .mov (.t 56), none, some .bool⟩, [11, 3]⟩,
     ⟨⟨(some 58), .mov (.t 3), (some (57, false)), none⟩, [12]⟩,
     ⟨⟨(some 59), .mov (.t 6), (some (57, false)), some (.int .i64)⟩, [12]⟩,
     ⟨⟨(some 60), .mov (.t 7), (some (57, false)), some (.int .i64)⟩, [12]⟩,
     ⟨⟨(some 61), .call N_level_Lattice_Join [((.t 58), .fz), ((.t 59), .fz), ((.t 60), .fz)] [.fz], (some (57, false)), some (.int .i64)⟩, [13, 14, 15, 12, 12]⟩,
     ⟨⟨(some 62), .mov (.t 5), (some (57, false)), none⟩, [12]⟩,
     ⟨⟨(some 63), .mov (.t 6), (some (57, false)), some (.int .i64)⟩, [12]⟩,
     ⟨⟨(some 64), .mov (.t 7), (some (57, false)), some (.int .i64)⟩, [12]⟩,
     ⟨⟨(some 65), .call N_ref01_Join [((.t 62), .fz), ((.t 63), .fz), ((.t 64), .fz)] [.fz], (some (57, false)), none⟩, [17, 18, 19, 16, 12]⟩,
     ⟨⟨(some 66), .iadr (.sl 1 false) (.t 65) (.c (.fz (.int .i64 0))), (some (57, false)), none⟩, [20, 12]⟩,
     ⟨⟨(some 67), .load 1 false (.t 66), (some (57, false)), some (.int .i64)⟩, [21, 12]⟩,
     ⟨⟨(some 68), .binI .neq .i64 (.t 61) (.t 67), (some (57, false)), some .bool⟩, [16, 22, 12]⟩,
     ⟨⟨(some 69), .pick (.t 57) (.c (.fz (.bool true))) (.t 68), none, some .bool⟩, [12, 23]⟩,
     ⟨⟨(some 70), .mov (.t 69), none, some .bool⟩, [24, 20]⟩,
     ⟨⟨(some 71), .mov (.t 3), (some (70, false)), none⟩, [25]⟩,
     ⟨⟨(some 72), .mov (.t 6), (some (70, false)), some (.int .i64)⟩, [25]⟩,
     ⟨⟨(some 73), .mov (.t 7), (some (70, false)), some (.int .i64)⟩, [25]⟩,
     ⟨⟨(some 74), .call N_level_Lattice_Meet [((.t 71), .fz), ((.t 72), .fz), ((.t 73), .fz)] [.fz], (some (70, false)), some (.int .i64)⟩, [26, 27, 28, 25, 25]⟩,
     ⟨⟨(some 75), .mov (.t 5), (some (70, false)), none⟩, [25]⟩,
     ⟨⟨(some 76), .mov (.t 6), (some (70, false)), some (.int .i64)⟩, [25]⟩,
     ⟨⟨(some 77), .mov (.t 7), (some (70, false)), some (.int .i64)⟩, [25]⟩,
     ⟨⟨(some 78), .call N_ref01_Meet [((.t 75), .fz), ((.t 76), .fz), ((.t 77), .fz)] [.fz], (some (70, false)), none⟩, [30, 31, 32, 29, 25]⟩,
     ⟨⟨(some 79), .iadr (.sl 1 false) (.t 78) (.c (.fz (.int .i64 0))), (some (70, false)), none⟩, [33, 25]⟩,
     ⟨⟨(some 80), .load 1 false (.t 79), (some (70, false)), some (.int .i64)⟩, [34, 25]⟩,
     ⟨⟨(some 81), .binI .neq .i64 (.t 74) (.t 80), (some (70, false)), some .bool⟩, [29, 35, 25]⟩,
     ⟨⟨(some 82), .pick (.t 70) (.c (.fz (.bool true))) (.t 81), none, some .bool⟩, [25, 36]⟩])
    (.cond (.t 82) (.seq (.region [⟨(some 2), .mov (.c (.fz (.bool false))), none, some .bool⟩])
      (.ret))
     (.skip))))
  (.region [⟨(some 43), .mov (.t 7), none, some (.int .i64)⟩,
   ⟨(some 44), .binI .add .i64 (.t 43) (.c (.fz (.int .i64 1))), none, some (.int .i64)⟩,
   ⟨(some 7), .mov (.t 44), none, some (.int .i64)⟩]))
def A_law01_LevelTables_s1 : ACode := .seq (.draws [⟨⟨(some 83), .mov (.t 5), none, none⟩, []⟩,
  ⟨⟨(some 84), .mov (.t 3), none, none⟩, []⟩,
  ⟨⟨(some 85), .call N_level_Lattice_Bottom [((.t 84), .fz)] [.fz], none, some (.int .i64)⟩, [1]⟩,
  ⟨⟨(some 86), .iadr (.sl 1 false) (.t 83) (.t 85), none, none⟩, [0, 2]⟩,
  ⟨⟨(some 87), .load 1 false (.t 86), none, none⟩, [3]⟩,
  ⟨⟨(some 88), .mov (.t 6), none, some (.int .i64)⟩, []⟩,
  ⟨⟨(some 89), .iadr (.sl 1 false) (.t 87) (.t 88), none, none⟩, [4, 5]⟩,
  ⟨⟨(some 90), .load 1 false (.t 89), none, some .bool⟩, [6]⟩,
  ⟨⟨(some 91), .notB (.t 90), none, some .bool⟩, [7]⟩,
  ⟨⟨(some 92), .mov (.t 91), none, some .bool⟩, [8, 2]⟩,
  ⟨⟨(some 93), .mov (.t 5), (some (92, false)), none⟩, [9]⟩,
  ⟨⟨(some 94), .mov (.t 6), (some (92, false)), some (.int .i64)⟩, [9]⟩,
  ⟨⟨(some 95), .iadr (.sl 1 false) (.t 93) (.t 94), (some (92, false)), none⟩, [10, 11, 9]⟩,
  ⟨⟨(some 96), .load 1 false (.t 95), (some (92, false)), none⟩, [12, 9]⟩,
  ⟨⟨(some 97), .mov (.t 3), (some (92, false)), none⟩, [9]⟩,
  ⟨⟨(some 98), .call N_level_Lattice_Top [((.t 97), .fz)] [.fz], (some (92, false)), some (.int .i64)⟩, [14, 9, 9]⟩,
  ⟨⟨(some 99), .iadr (.sl 1 false) (.t 96) (.t 98), (some (92, false)), none⟩, [13, 15, 9]⟩,
  ⟨⟨(some 100), .load 1 false (.t 99), (some (92, false)), some .bool⟩, [16, 9]⟩,
  ⟨⟨(some 101), .notB (.t 100), (some (92, false)), some .bool⟩, [17, 9]⟩,
  ⟨⟨(some 102), .pick (.t 92) (.c (.fz (.bool true))) (.t 101), none, some .bool⟩, [9, 18]⟩])
 (.cond (.t 102) (.seq (.region [⟨(some 2), .mov (.c (.fz (.bool false))), none, some .bool⟩])
   (.ret))
  (.skip))
def A_law01_LevelTables_s2 : ACode := .region [⟨(some 37), .mov (.t 6), none, some (.int .i64)⟩,
 ⟨(some 38), .binI .add .i64 (.t 37) (.c (.fz (.int .i64 1))), none, some (.int .i64)⟩,
 ⟨(some 6), .mov (.t 38), none, some (.int .i64)⟩]
def A_law01_LevelTables_b2 : ACode := .seq (.seq (.region [⟨(some 33), .mov (.t 6), none, some (.int .i64)⟩,
   ⟨(some 34), .mov (.t 5), none, none⟩,
   ⟨(some 35), .len (.sl 1 false) (.t 34), none, some (.int .i64)⟩,
   ⟨(some 36), .binI .lss .i64 (.t 33) (.t 35), none, some .bool⟩])
  (.cond (.t 36) (.skip)
   (.exit 0)))
 (.seq (.block 1 (.seq (.seq (.region [⟨(some 7), .mov (.c (.fz (.int .i64 0))), none, some (.int .i64)⟩])
     (.block 2 (.loop [3, 5, 6, 7] [2, 3, 5, 6] A_law01_LevelTables_b1)))
    A_law01_LevelTables_s1))
  A_law01_LevelTables_s2)
def A_law01_LevelTables_s3 : ACode := .seq (.region [⟨(some 103), .call N_law01_lives [] [.fz], none, some .bool⟩,
  ⟨(some 2), .mov (.t 103), none, some .bool⟩])
 (.ret)
def A_law01_LevelTables_j4 : ACode := .seq (.seq (.region [⟨(some 6), .mov (.c (.fz (.int .i64 0))), none, some (.int .i64)⟩])
  (.block 0 (.loop [3, 5, 6] [2] A_law01_LevelTables_b2)))
 A_law01_LevelTables_s3
def A_law01_LevelTables_j5 : ACode := .seq (.region [⟨(some 18), .load 3 true (.t 1), none, none⟩,
  ⟨(some 19), .call N_level_New [((.t 18), .fz)] [.fz, .fz], none, none⟩,
  ⟨(some 17), .mov (.t 19), none, none⟩,
  ⟨(some 20), .extract (.t 17) 0, none, none⟩,
  ⟨(some 21), .extract (.t 17) 1, none, some (.int .i64)⟩,
  ⟨(some 3), .mov (.t 20), none, none⟩,
  ⟨(some 4), .mov (.t 21), none, some (.int .i64)⟩])
 (.seq (.region [⟨(some 22), .load 3 true (.t 1), none, none⟩,
   ⟨(some 23), .call N_ref01_Table [((.t 22), .fz)] [.fz], none, none⟩,
   ⟨(some 5), .mov (.t 23), none, none⟩])
  (.seq (.seq (.region [⟨(some 24), .mov (.t 3), none, none⟩,
     ⟨(some 25), .eqNil false (.t 24), none, some .bool⟩,
     ⟨(some 26), .mov (.t 25), none, some .bool⟩,
     ⟨(some 27), .mov (.t 3), (some (26, false)), none⟩,
     ⟨(some 28), .call N_level_Lattice_Size [((.t 27), .fz)] [.fz], (some (26, false)), some (.int .i64)⟩,
     ⟨(some 29), .mov (.t 5), (some (26, false)), none⟩,
     ⟨(some 30), .len (.sl 1 false) (.t 29), (some (26, false)), some (.int .i64)⟩,
     ⟨(some 31), .binI .neq .i64 (.t 28) (.t 30), (some (26, false)), some .bool⟩,
     ⟨(some 32), .pick (.t 26) (.c (.fz (.bool true))) (.t 31), none, some .bool⟩])
    (.cond (.t 32) (.seq (.region [⟨(some 2), .mov (.c (.fz (.bool false))), none, some .bool⟩])
      (.ret))
     (.skip)))
   (.trim [3, 5] A_law01_LevelTables_j4)))
def A_law01_LevelTables : AFunc := ⟨1, [(.tmp 2, .fz)], .seq (.region [⟨(some 1), .box 3 true (.t 0), none, none⟩,
  ⟨(some 2), .mov (.c (.fz (.bool false))), none, some .bool⟩])
 (.seq (.seq (.region [⟨(some 8), .load 3 true (.t 1), none, none⟩,
    ⟨(some 9), .call N_law01_light [((.t 8), .fz)] [.fz], none, some .bool⟩,
    ⟨(some 10), .notB (.t 9), none, some .bool⟩,
    ⟨(some 11), .mov (.t 10), none, some .bool⟩,
    ⟨(some 12), .load 3 true (.t 1), (some (11, false)), none⟩,
    ⟨(some 13), .call N_ref01_Check [((.t 12), .fz)] [.fz], (some (11, false)), some (.int .i64)⟩,
    ⟨(some 14), .binI .neq .i64 (.t 13) (.c (.fz (.int .i64 0))), (some (11, false)), some .bool⟩,
    ⟨(some 15), .pick (.t 11) (.c (.fz (.bool true))) (.t 14), none, some .bool⟩])
   (.cond (.t 15) (.seq (.region [⟨(some 16), .call N_law01_lives [] [.fz], none, some .bool⟩,
      ⟨(some 2), .mov (.t 16), none, some .bool⟩])
     (.ret))
    (.skip)))
  (.trim [1] A_law01_LevelTables_j5))⟩
def J_law01_LevelTables_5_0 (R : Orc) (k : Nat) (w : Bool) (h4096_0 : List FV) (h4096_1 : List FV) (h4096_2 : List FV) := execL R k w [] A_law01_LevelTables_j5 Ans ⟨[(1, .ptr 4096 0 0)], [(4095, .dead), (4096, .var 3 true (.fz (FV.ag [(FV.sl h4096_0), (FV.sl h4096_1), (FV.sl h4096_2)])))]⟩ (kFin R [(.tmp 2, .fz)] [])
def J_law01_LevelTables_4_0 (R : Orc) (k : Nat) (w : Bool) (x3 : FV) (x5 : FV) := execL R k w [] A_law01_LevelTables_j4 Ans ⟨[(3, .fz x3), (5, .fz x5)], [(4095, .dead)]⟩ (kFin R [(.tmp 2, .fz)] [])
def K_law01_LevelTables_2 (R : Orc) (k : Nat) (w : Bool) : AExit → St → Option Ans := (kBlk 0 (kSeq R k w [] A_law01_LevelTables_s3 (kFin R [(.tmp 2, .fz)] [])))
def L_law01_LevelTables_2_0 (R : Orc) (k : Nat) (w : Bool) (n : Nat) (x3 : FV) (x5 : FV) (x6 : Int) := loopL R k w [] [3, 5, 6] [2] A_law01_LevelTables_b2 n ⟨[(3, .fz x3), (5, .fz x5), (6, .fz (FV.int .i64 x6))], [(4095, .dead)]⟩
def K_law01_LevelTables_1 (R : Orc) (k : Nat) (w : Bool) (n : Nat) : AExit → St → Option (AExit × St) := (kBlk 2 (kSeq R k w [] A_law01_LevelTables_s1 (kBlk 1 (kSeq R k w [] A_law01_LevelTables_s2 (kLoop R k w [] [3, 5, 6] [2] A_law01_LevelTables_b2 n)))))
def L_law01_LevelTables_1_0 (R : Orc) (k : Nat) (w : Bool) (n : Nat) (x3 : FV) (x5 : FV) (x6 : Int) (x7 : Int) := loopL R k w [] [3, 5, 6, 7] [2, 3, 5, 6] A_law01_LevelTables_b1 n ⟨[(3, .fz x3), (5, .fz x5), (6, .fz (FV.int .i64 x6)), (7, .fz (FV.int .i64 x7))], [(4095, .dead)]⟩
def X_law01_LevelTables_2_0 : St := ⟨[], [(4095, .dead)]⟩
def X_law01_LevelTables_1_0 (x2 : Bool) (x3 : FV) (x5 : FV) (x6 : Int) : St := ⟨[(2, .fz (FV.bool x2)), (3, .fz x3), (5, .fz x5), (6, .fz (FV.int .i64 x6))], [(4095, .dead)]⟩
def X_law01_LevelTables_1_1 (x3 : FV) (x5 : FV) (x6 : Int) : St := ⟨[(3, .fz x3), (5, .fz x5), (6, .fz (FV.int .i64 x6))], [(4095, .dead)]⟩
def X_law01_LevelTables_2_1 (x2 : Bool) : St := ⟨[(2, .fz (FV.bool x2))], [(4095, .dead)]⟩
theorem E_law01_LevelTables (R : Orc) (k : Nat) (w : Bool) (a0_0 : List FV) (a0_1 : List FV) (a0_2 : List FV) : callL R k w A_law01_LevelTables [.fz (FV.ag [(FV.sl a0_0), (FV.sl a0_1), (FV.sl a0_2)])] = onR (R N_law01_light [.fz (FV.ag [(FV.sl a0_0), (FV.sl a0_1), (FV.sl a0_2)])]) fun r0 => when (List.isEmpty r0.2 && allF [.fz] r0.1) (when (FV.isBool (TV.toF (List.getD r0.1 0 TV.em))) (ifB (!(FV.toBool (TV.toF (List.getD r0.1 0 TV.em))))
  (onR (R N_law01_lives []) fun r1 => when (List.isEmpty r1.2 && allF [.fz] r1.1) (when (FV.isBool (TV.toF (List.getD r1.1 0 TV.em))) (some ([.fz (FV.bool (FV.toBool (TV.toF (List.getD r1.1 0 TV.em))))], []))))
  (onR (R N_ref01_Check [.fz (FV.ag [(FV.sl a0_0), (FV.sl a0_1), (FV.sl a0_2)])]) fun r2 => when (List.isEmpty r2.2 && allF [.fz] r2.1) (when (FV.isInt .i64 (TV.toF (List.getD r2.1 0 TV.em))) (ifB ((FV.toInt (TV.toF (List.getD r2.1 0 TV.em))) != 0)
   (onR (R N_law01_lives []) fun r3 => when (List.isEmpty r3.2 && allF [.fz] r3.1) (when (FV.isBool (TV.toF (List.getD r3.1 0 TV.em))) (some ([.fz (FV.bool (FV.toBool (TV.toF (List.getD r3.1 0 TV.em))))], []))))
   (jump w (J_law01_LevelTables_5_0 R k w a0_0 a0_1 a0_2))))))) := by kernel_rfl
theorem J_law01_LevelTables_5_0_eq (R : Orc) (k : Nat) (w : Bool) (h4096_0 : List FV) (h4096_1 : List FV) (h4096_2 : List FV) : J_law01_LevelTables_5_0 R k w h4096_0 h4096_1 h4096_2 = onR (R N_level_New [.fz (FV.ag [(FV.sl h4096_0), (FV.sl h4096_1), (FV.sl h4096_2)])]) fun r4 => when (List.isEmpty r4.2 && allF [.fz, .fz] r4.1) (when (FV.isInt .i64 (TV.toF (List.getD r4.1 1 TV.em))) (onR (R N_ref01_Table [.fz (FV.ag [(FV.sl h4096_0), (FV.sl h4096_1), (FV.sl h4096_2)])]) fun r5 => when (List.isEmpty r5.2 && allF [.fz] r5.1) (when (FV.isPt (TV.toF (List.getD r4.1 0 TV.em)) || FV.isNil (TV.toF (List.getD r4.1 0 TV.em))) (ifB (FV.isNil (TV.toF (List.getD r4.1 0 TV.em)))
  (some ([.fz (FV.bool false)], []))
  (onR (R N_level_Lattice_Size [.fz (TV.toF (List.getD r4.1 0 TV.em))]) fun r6 => when (List.isEmpty r6.2 && allF [.fz] r6.1) (when (FV.isInt .i64 (TV.toF (List.getD r6.1 0 TV.em))) (when (FV.isSl (TV.toF (List.getD r5.1 0 TV.em))) (ifB ((FV.toInt (TV.toF (List.getD r6.1 0 TV.em))) != (List.length (FV.toSl (TV.toF (List.getD r5.1 0 TV.em))) : Int))
   (some ([.fz (FV.bool false)], []))
   (jump w (J_law01_LevelTables_4_0 R k w (TV.toF (List.getD r4.1 0 TV.em)) (TV.toF (List.getD r5.1 0 TV.em)))))))))))) := by kernel_rfl
theorem J_law01_LevelTables_4_0_eq (R : Orc) (k : Nat) (w : Bool) (x3 : FV) (x5 : FV) : J_law01_LevelTables_4_0 R k w x3 x5 = onL (L_law01_LevelTables_2_0 R k w k x3 x5 0) (K_law01_LevelTables_2 R k w) := by kernel_rfl
theorem L_law01_LevelTables_2_0_eq (R : Orc) (k : Nat) (w : Bool) (n : Nat) (x3 : FV) (x5 : FV) (x6 : Int) : L_law01_LevelTables_2_0 R k w (n + 1) x3 x5 x6 = when (FV.isSl x5) (ifB (decide (x6 < (List.length (FV.toSl x5) : Int)))
  (onL (L_law01_LevelTables_1_0 R k w k x3 x5 x6 0) (K_law01_LevelTables_1 R k w n))
  (some ((.exit 0), X_law01_LevelTables_2_0))) := by kernel_rfl
theorem L_law01_LevelTables_1_0_eq (R : Orc) (k : Nat) (w : Bool) (n : Nat) (x3 : FV) (x5 : FV) (x6 : Int) (x7 : Int) : L_law01_LevelTables_1_0 R k w (n + 1) x3 x5 x6 x7 = when (FV.isSl x5) (ifB (decide (x7 < (List.length (FV.toSl x5) : Int)))
  (onR (R N_level_Lattice_Leq [.fz x3, .fz (FV.int .i64 x6), .fz (FV.int .i64 x7)]) fun r7 => when (List.isEmpty r7.2 && allF [.fz] r7.1) (when (FV.isBool (TV.toF (List.getD r7.1 0 TV.em))) (when (FV.isSl x5) (when ((decide (0 ≤ x6)) && (decide (x6 < (List.length (FV.toSl x5) : Int)))) (when (FV.fits 1 false (List.getD (FV.toSl x5) (Int.toNat x6) FV.nilp)) (when (FV.isSl (List.getD (FV.toSl x5) (Int.toNat x6) FV.nilp)) (when ((decide (0 ≤ x7)) && (decide (x7 < (List.length (FV.toSl (List.getD (FV.toSl x5) (Int.toNat x6) FV.nilp)) : Int)))) (when (FV.fits 1 false (List.getD (FV.toSl (List.getD (FV.toSl x5) (Int.toNat x6) FV.nilp)) (Int.toNat x7) FV.nilp)) (when (FV.isBool (List.getD (FV.toSl (List.getD (FV.toSl x5) (Int.toNat x6) FV.nilp)) (Int.toNat x7) FV.nilp)) (ifB (!((FV.toBool (TV.toF (List.getD r7.1 0 TV.em))) == (FV.toBool (List.getD (FV.toSl (List.getD (FV.toSl x5) (Int.toNat x6) FV.nilp)) (Int.toNat x7) FV.nilp))))
   (some (.ret, X_law01_LevelTables_1_0 false x3 x5 x6))
   (onR (R N_level_Lattice_Join [.fz x3, .fz (FV.int .i64 x6), .fz (FV.int .i64 x7)]) fun r8 => when (List.isEmpty r8.2 && allF [.fz] r8.1) (when (FV.isInt .i64 (TV.toF (List.getD r8.1 0 TV.em))) (onR (R N_ref01_Join [.fz x5, .fz (FV.int .i64 x6), .fz (FV.int .i64 x7)]) fun r9 => when (List.isEmpty r9.2 && allF [.fz] r9.1) (when (FV.isSl (TV.toF (List.getD r9.1 0 TV.em))) (when (decide (0 < (List.length (FV.toSl (TV.toF (List.getD r9.1 0 TV.em))) : Int))) (when (FV.fits 1 false (List.getD (FV.toSl (TV.toF (List.getD r9.1 0 TV.em))) 0 FV.nilp)) (when (FV.isInt .i64 (List.getD (FV.toSl (TV.toF (List.getD r9.1 0 TV.em))) 0 FV.nilp)) (ifB ((FV.toInt (TV.toF (List.getD r8.1 0 TV.em))) != (FV.toInt (List.getD (FV.toSl (TV.toF (List.getD r9.1 0 TV.em))) 0 FV.nilp)))
    (some (.ret, X_law01_LevelTables_1_0 false x3 x5 x6))
    (onR (R N_level_Lattice_Meet [.fz x3, .fz (FV.int .i64 x6), .fz (FV.int .i64 x7)]) fun r10 => when (List.isEmpty r10.2 && allF [.fz] r10.1) (when (FV.isInt .i64 (TV.toF (List.getD r10.1 0 TV.em))) (onR (R N_ref01_Meet [.fz x5, .fz (FV.int .i64 x6), .fz (FV.int .i64 x7)]) fun r11 => when (List.isEmpty r11.2 && allF [.fz] r11.1) (when (FV.isSl (TV.toF (List.getD r11.1 0 TV.em))) (when (decide (0 < (List.length (FV.toSl (TV.toF (List.getD r11.1 0 TV.em))) : Int))) (when (FV.fits 1 false (List.getD (FV.toSl (TV.toF (List.getD r11.1 0 TV.em))) 0 FV.nilp)) (when (FV.isInt .i64 (List.getD (FV.toSl (TV.toF (List.getD r11.1 0 TV.em))) 0 FV.nilp)) (ifB ((FV.toInt (TV.toF (List.getD r10.1 0 TV.em))) != (FV.toInt (List.getD (FV.toSl (TV.toF (List.getD r11.1 0 TV.em))) 0 FV.nilp)))
     (some (.ret, X_law01_LevelTables_1_0 false x3 x5 x6))
     (L_law01_LevelTables_1_0 R k w n x3 x5 x6 (IntKind.wrap .i64 (x7 + 1)))))))))))))))))))))))))))))
  (some ((.exit 2), X_law01_LevelTables_1_1 x3 x5 x6))) := by kernel_rfl
theorem X_law01_LevelTables_2_0_eq (R : Orc) (k : Nat) (w : Bool) : K_law01_LevelTables_2 R k w (.exit 0) (X_law01_LevelTables_2_0) = onR (R N_law01_lives []) fun r12 => when (List.isEmpty r12.2 && allF [.fz] r12.1) (when (FV.isBool (TV.toF (List.getD r12.1 0 TV.em))) (some ([.fz (FV.bool (FV.toBool (TV.toF (List.getD r12.1 0 TV.em))))], []))) := by kernel_rfl
theorem X_law01_LevelTables_1_0_eq (R : Orc) (k : Nat) (w : Bool) (n : Nat) (x2 : Bool) (x3 : FV) (x5 : FV) (x6 : Int) : K_law01_LevelTables_1 R k w n .ret (X_law01_LevelTables_1_0 x2 x3 x5 x6) = some (.ret, X_law01_LevelTables_2_1 x2) := by kernel_rfl
theorem X_law01_LevelTables_1_1_eq (R : Orc) (k : Nat) (w : Bool) (n : Nat) (x3 : FV) (x5 : FV) (x6 : Int) : K_law01_LevelTables_1 R k w n (.exit 2) (X_law01_LevelTables_1_1 x3 x5 x6) = onR (R N_level_Lattice_Bottom [.fz x3]) fun r13 => when (List.isEmpty r13.2 && allF [.fz] r13.1) (when (FV.isInt .i64 (TV.toF (List.getD r13.1 0 TV.em))) (when (FV.isSl x5) (when ((decide (0 ≤ (FV.toInt (TV.toF (List.getD r13.1 0 TV.em))))) && (decide ((FV.toInt (TV.toF (List.getD r13.1 0 TV.em))) < (List.length (FV.toSl x5) : Int)))) (when (FV.fits 1 false (List.getD (FV.toSl x5) (Int.toNat (FV.toInt (TV.toF (List.getD r13.1 0 TV.em)))) FV.nilp)) (when (FV.isSl (List.getD (FV.toSl x5) (Int.toNat (FV.toInt (TV.toF (List.getD r13.1 0 TV.em)))) FV.nilp)) (when ((decide (0 ≤ x6)) && (decide (x6 < (List.length (FV.toSl (List.getD (FV.toSl x5) (Int.toNat (FV.toInt (TV.toF (List.getD r13.1 0 TV.em)))) FV.nilp)) : Int)))) (when (FV.fits 1 false (List.getD (FV.toSl (List.getD (FV.toSl x5) (Int.toNat (FV.toInt (TV.toF (List.getD r13.1 0 TV.em)))) FV.nilp)) (Int.toNat x6) FV.nilp)) (when (FV.isBool (List.getD (FV.toSl (List.getD (FV.toSl x5) (Int.toNat (FV.toInt (TV.toF (List.getD r13.1 0 TV.em)))) FV.nilp)) (Int.toNat x6) FV.nilp)) (ifB (!(FV.toBool (List.getD (FV.toSl (List.getD (FV.toSl x5) (Int.toNat (FV.toInt (TV.toF (List.getD r13.1 0 TV.em)))) FV.nilp)) (Int.toNat x6) FV.nilp)))
  (some (.ret, X_law01_LevelTables_2_1 false))
  (when (FV.isSl x5) (when ((decide (0 ≤ x6)) && (decide (x6 < (List.length (FV.toSl x5) : Int)))) (when (FV.fits 1 false (List.getD (FV.toSl x5) (Int.toNat x6) FV.nilp)) (onR (R N_level_Lattice_Top [.fz x3]) fun r14 => when (List.isEmpty r14.2 && allF [.fz] r14.1) (when (FV.isInt .i64 (TV.toF (List.getD r14.1 0 TV.em))) (when (FV.isSl (List.getD (FV.toSl x5) (Int.toNat x6) FV.nilp)) (when ((decide (0 ≤ (FV.toInt (TV.toF (List.getD r14.1 0 TV.em))))) && (decide ((FV.toInt (TV.toF (List.getD r14.1 0 TV.em))) < (List.length (FV.toSl (List.getD (FV.toSl x5) (Int.toNat x6) FV.nilp)) : Int)))) (when (FV.fits 1 false (List.getD (FV.toSl (List.getD (FV.toSl x5) (Int.toNat x6) FV.nilp)) (Int.toNat (FV.toInt (TV.toF (List.getD r14.1 0 TV.em)))) FV.nilp)) (when (FV.isBool (List.getD (FV.toSl (List.getD (FV.toSl x5) (Int.toNat x6) FV.nilp)) (Int.toNat (FV.toInt (TV.toF (List.getD r14.1 0 TV.em)))) FV.nilp)) (ifB (!(FV.toBool (List.getD (FV.toSl (List.getD (FV.toSl x5) (Int.toNat x6) FV.nilp)) (Int.toNat (FV.toInt (TV.toF (List.getD r14.1 0 TV.em)))) FV.nilp)))
   (some (.ret, X_law01_LevelTables_2_1 false))
   (L_law01_LevelTables_2_0 R k w n x3 x5 (IntKind.wrap .i64 (x6 + 1)))))))))))))))))))))) := by kernel_rfl
theorem X_law01_LevelTables_2_1_eq (R : Orc) (k : Nat) (w : Bool) (x2 : Bool) : K_law01_LevelTables_2 R k w .ret (X_law01_LevelTables_2_1 x2) = some ([.fz (FV.bool x2)], []) := by kernel_rfl
/-! keyhole/keyholelaw01.LevelLaws -/
def A_law01_LevelLaws_j1 : ACode := .seq (.region [⟨(some 129), .mov (.t 5), none, none⟩,
  ⟨(some 130), .mov (.t 8), none, some (.int .i64)⟩,
  ⟨(some 131), .mov (.t 9), none, some (.int .i64)⟩,
  ⟨(some 132), .call N_level_Lattice_Leq [((.t 129), .fz), ((.t 130), .fz), ((.t 131), .fz)] [.fz], none, some .bool⟩,
  ⟨(some 133), .mov (.t 5), none, none⟩,
  ⟨(some 134), .mov (.t 8), none, some (.int .i64)⟩,
  ⟨(some 135), .mov (.t 9), none, some (.int .i64)⟩,
  ⟨(some 136), .call N_level_Lattice_Join [((.t 133), .fz), ((.t 134), .fz), ((.t 135), .fz)] [.fz], none, some (.int .i64)⟩,
  ⟨(some 137), .mov (.t 9), none, some (.int .i64)⟩,
  ⟨(some 138), .binI .eql .i64 (.t 136) (.t 137), none, some .bool⟩,
  ⟨(some 139), .binB false (.t 132) (.t 138), none, some .bool⟩,
  ⟨(some 140), .mov (.t 139), none, some .bool⟩,
  ⟨(some 141), .mov (.t 5), (some (140, true)), none⟩,
  ⟨(some 142), .mov (.t 8), (some (140, true)), some (.int .i64)⟩,
  ⟨(some 143), .mov (.t 9), (some (140, true)), some (.int .i64)⟩,
  ⟨(some 144), .call N_level_Lattice_Leq [((.t 141), .fz), ((.t 142), .fz), ((.t 143), .fz)] [.fz], (some (140, true)), some .bool⟩,
  ⟨(some 145), .mov (.t 5), (some (140, true)), none⟩,
  ⟨(some 146), .mov (.t 8), (some (140, true)), some (.int .i64)⟩,
  ⟨(some 147), .mov (.t 9), (some (140, true)), some (.int .i64)⟩,
  ⟨(some 148), .call N_level_Lattice_Meet [((.t 145), .fz), ((.t 146), .fz), ((.t 147), .fz)] [.fz], (some (140, true)), some (.int .i64)⟩,
  ⟨(some 149), .mov (.t 8), (some (140, true)), some (.int .i64)⟩,
  ⟨(some 150), .binI .eql .i64 (.t 148) (.t 149), (some (140, true)), some .bool⟩,
  ⟨(some 151), .binB false (.t 144) (.t 150), (some (140, true)), some .bool⟩,
  ⟨(some 152), .pick (.t 140) (.t 151) (.c (.fz (.bool false))), none, some .bool⟩,
  ⟨(some 153), .mov (.t 152), none, some .bool⟩,
  ⟨(some 154), .mov (.t 5), (some (153, true)), none⟩,
  ⟨(some 155), .mov (.t 8), (some (153, true)), some (.int .i64)⟩,
  ⟨(some 156), .mov (.t 5), (some (153, true)), none⟩,
  ⟨(some 157), .mov (.t 8), (some (153, true)), some (.int .i64)⟩,
  ⟨(some 158), .mov (.t 9), (some (153, true)), some (.int .i64)⟩,
  ⟨(some 159), .call N_level_Lattice_Join [((.t 156), .fz), ((.t 157), .fz), ((.t 158), .fz)] [.fz], (some (153, true)), some (.int .i64)⟩,
  ⟨(some 160), .call N_level_Lattice_Leq [((.t 154), .fz), ((.t 155), .fz), ((.t 159), .fz)] [.fz], (some (153, true)), some .bool⟩,
  ⟨(some 161), .pick (.t 153) (.t 160) (.c (.fz (.bool false))), none, some .bool⟩,
  ⟨(some 162), .mov (.t 161), none, some .bool⟩,
  ⟨(some 163), .mov (.t 5), (some (162, true)), none⟩,
  ⟨(some 164), .mov (.t 5), (some (162, true)), none⟩,
  ⟨(some 165), .mov (.t 8), (some (162, true)), some (.int .i64)⟩,
  ⟨(some 166), .mov (.t 9), (some (162, true)), some (.int .i64)⟩,
  ⟨(some 167), .call N_level_Lattice_Meet [((.t 164), .fz), ((.t 165), .fz), ((.t 166), .fz)] [.fz], (some (162, true)), some (.int .i64)⟩,
  ⟨(some 168), .mov (.t 9), (some (162, true)), some (.int .i64)⟩,
  ⟨(some 169), .call N_level_Lattice_Leq [((.t 163), .fz), ((.t 167), .fz), ((.t 168), .fz)] [.fz], (some (162, true)), some .bool⟩,
  ⟨(some 170), .pick (.t 162) (.t 169) (.c (.fz (.bool false))), none, some .bool⟩,
  ⟨(some 171), .mov (.t 170), none, some .bool⟩,
  ⟨(some 172), .call N_law01_lives [] [.fz], (some (171, true)), some .bool⟩,
  ⟨(some 173), .pick (.t 171) (.t 172) (.c (.fz (.bool false))), none, some .bool⟩,
  ⟨(some 4), .mov (.t 173), none, some .bool⟩])
 (.ret)
def A_law01_LevelLaws_j2 : ACode := .seq (.seq (.region [⟨(some 93), .mov (.t 5), none, none⟩,
   ⟨(some 94), .mov (.t 8), none, some (.int .i64)⟩,
   ⟨(some 95), .mov (.t 5), none, none⟩,
   ⟨(some 96), .mov (.t 8), none, some (.int .i64)⟩,
   ⟨(some 97), .mov (.t 9), none, some (.int .i64)⟩,
   ⟨(some 98), .call N_level_Lattice_Meet [((.t 95), .fz), ((.t 96), .fz), ((.t 97), .fz)] [.fz], none, some (.int .i64)⟩,
   ⟨(some 99), .call N_level_Lattice_Join [((.t 93), .fz), ((.t 94), .fz), ((.t 98), .fz)] [.fz], none, some (.int .i64)⟩,
   ⟨(some 100), .mov (.t 8), none, some (.int .i64)⟩,
   ⟨(some 101), .binI .neq .i64 (.t 99) (.t 100), none, some .bool⟩,
   ⟨(some 102), .mov (.t 101), none, some .bool⟩,
   ⟨(some 103), .mov (.t 5), (some (102, false)), none⟩,
   ⟨(some 104), .mov (.t 8), (some (102, false)), some (.int .i64)⟩,
   ⟨(some 105), .mov (.t 5), (some (102, false)), none⟩,
   ⟨(some 106), .mov (.t 8), (some (102, false)), some (.int .i64)⟩,
   ⟨(some 107), .mov (.t 9), (some (102, false)), some (.int .i64)⟩,
   ⟨(some 108), .call N_level_Lattice_Join [((.t 105), .fz), ((.t 106), .fz), ((.t 107), .fz)] [.fz], (some (102, false)), some (.int .i64)⟩,
   ⟨(some 109), .call N_level_Lattice_Meet [((.t 103), .fz), ((.t 104), .fz), ((.t 108), .fz)] [.fz], (some (102, false)), some (.int .i64)⟩,
   ⟨(some 110), .mov (.t 8), (some (102, false)), some (.int .i64)⟩,
   ⟨(some 111), .binI .neq .i64 (.t 109) (.t 110), (some (102, false)), some .bool⟩,
   ⟨(some 112), .pick (.t 102) (.c (.fz (.bool true))) (.t 111), none, some .bool⟩,
   ⟨(some 113), .mov (.t 112), none, some .bool⟩,
   ⟨(some 114), .mov (.t 5), (some (113, false)), none⟩,
   ⟨(some 115), .mov (.t 8), (some (113, false)), some (.int .i64)⟩,
   ⟨(some 116), .mov (.t 8), (some (113, false)), some (.int .i64)⟩,
   ⟨(some 117), .call N_level_Lattice_Join [((.t 114), .fz), ((.t 115), .fz), ((.t 116), .fz)] [.fz], (some (113, false)), some (.int .i64)⟩,
   ⟨(some 118), .mov (.t 8), (some (113, false)), some (.int .i64)⟩,
   ⟨(some 119), .binI .neq .i64 (.t 117) (.t 118), (some (113, false)), some .bool⟩,
   ⟨(some 120), .pick (.t 113) (.c (.fz (.bool true))) (.t 119), none, some .bool⟩,
   ⟨(some 121), .mov (.t 120), none, some .bool⟩,
   ⟨(some 122), .mov (.t 5), (some (121, false)), none⟩,
   ⟨(some 123), .mov (.t 8), (some (121, false)), some (.int .i64)⟩,
   ⟨(some 124), .mov (.t 8), (some (121, false)), some (.int .i64)⟩,
   ⟨(some 125), .call N_level_Lattice_Meet [((.t 122), .fz), ((.t 123), .fz), ((.t 124), .fz)] [.fz], (some (121, false)), some (.int .i64)⟩,
   ⟨(some 126), .mov (.t 8), (some (121, false)), some (.int .i64)⟩,
   ⟨(some 127), .binI .neq .i64 (.t 125) (.t 126), (some (121, false)), some .bool⟩,
   ⟨(some 128), .pick (.t 121) (.c (.fz (.bool true))) (.t 127), none, some .bool⟩])
  (.cond (.t 128) (.seq (.region [⟨(some 4), .mov (.c (.fz (.bool false))), none, some .bool⟩])
    (.ret))
   (.skip)))
 (.trim [5, 8, 9] A_law01_LevelLaws_j1)
def A_law01_LevelLaws_j3 : ACode := .seq (.region [⟨(some 24), .mov (.t 5), none, none⟩,
  ⟨(some 25), .call N_level_Lattice_Size [((.t 24), .fz)] [.fz], none, some (.int .i64)⟩,
  ⟨(some 7), .mov (.t 25), none, some (.int .i64)⟩])
 (.seq (.draws [⟨⟨(some 26), .iadr (.arr 3 1 false) (.t 3) (.c (.fz (.int .i64 0))), none, none⟩, []⟩,
   ⟨⟨(some 27), .load 1 false (.t 26), none, some (.int .i64)⟩, [0]⟩,
   ⟨⟨(some 28), .mov (.t 7), none, some (.int .i64)⟩, []⟩,
   ⟨⟨(some 29), .binI .rem .i64 (.t 27) (.t 28), none, some (.int .i64)⟩, [1, 2]⟩,
   ⟨⟨(some 30), .mov (.t 7), none, some (.int .i64)⟩, []⟩,
   ⟨⟨(some 31), .binI .add .i64 (.t 29) (.t 30), none, some (.int .i64)⟩, [3, 4]⟩,
   ⟨⟨(some 32), .mov (.t 7), none, some (.int .i64)⟩, []⟩,
   ⟨⟨(some 33), .binI .rem .i64 (.t 31) (.t 32), none, some (.int .i64)⟩, [5, 6]⟩,
   ⟨⟨(some 34), .iadr (.arr 3 1 false) (.t 3) (.c (.fz (.int .i64 1))), none, none⟩, []⟩,
   ⟨⟨(some 35), .load 1 false (.t 34), none, some (.int .i64)⟩, [8]⟩,
   ⟨⟨(some 36), .mov (.t 7), none, some (.int .i64)⟩, []⟩,
   ⟨⟨(some 37), .binI .rem .i64 (.t 35) (.t 36), none, some (.int .i64)⟩, [9, 10]⟩,
   ⟨⟨(some 38), .mov (.t 7), none, some (.int .i64)⟩, []⟩,
   ⟨⟨(some 39), .binI .add .i64 (.t 37) (.t 38), none, some (.int .i64)⟩, [11, 12]⟩,
   ⟨⟨(some 40), .mov (.t 7), none, some (.int .i64)⟩, []⟩,
   ⟨⟨(some 41), .binI .rem .i64 (.t 39) (.t 40), none, some (.int .i64)⟩, [13, 14]⟩,
   ⟨⟨(some 42), .iadr (.arr 3 1 false) (.t 3) (.c (.fz (.int .i64 2))), none, none⟩, []⟩,
   ⟨⟨(some 43), .load 1 false (.t 42), none, some (.int .i64)⟩, [16]⟩,
   ⟨⟨(some 44), .mov (.t 7), none, some (.int .i64)⟩, []⟩,
   ⟨⟨(some 45), .binI .rem .i64 (.t 43) (.t 44), none, some (.int .i64)⟩, [17, 18]⟩,
   ⟨⟨(some 46), .mov (.t 7), none, some (.int .i64)⟩, []⟩,
   ⟨⟨(some 47), .binI .add .i64 (.t 45) (.t 46), none, some (.int .i64)⟩, [19, 20]⟩,
   ⟨⟨(some 48), .mov (.t 7), none, some (.int .i64)⟩, []⟩,
   ⟨⟨(some 49), .binI .rem .i64 (.t 47) (.t 48), none, some (.int .i64)⟩, [21, 22]⟩,
   ⟨⟨(some 8), .mov (.t 33), none, some (.int .i64)⟩, [7, 0, 1, 2, 3, 4, 5, 6, 7]⟩,
   ⟨⟨(some 9), .mov (.t 41), none, some (.int .i64)⟩, [15, 24, 0, 1, 2, 3, 4, 5, 6, 7, 8, 9, 10, 11, 12, 13, 14, 15, 24]⟩,
   ⟨⟨(some 10), .mov (.t 49), none, some (.int .i64)⟩, [23, 25, 0, 1, 2, 3, 4, 5, 6, 7, 8, 9, 10, 11, 12, 13, 14, 15, 16, 17, 18, 19, 20, 21, 22, 23, 24, 25]⟩])
  (.seq (.seq (.region [⟨(some 50), .mov (.t 5), none, none⟩,
     ⟨(some 51), .mov (.t 8), none, some (.int .i64)⟩,
     ⟨(some 52), .mov (.t 9), none, some (.int .i64)⟩,
     ⟨(some 53), .call N_level_Lattice_Join [((.t 50), .fz), ((.t 51), .fz), ((.t 52), .fz)] [.fz], none, some (.int .i64)⟩,
     ⟨(some 54), .mov (.t 5), none, none⟩,
     ⟨(some 55), .mov (.t 9), none, some (.int .i64)⟩,
     ⟨(some 56), .mov (.t 8), none, some (.int .i64)⟩,
     ⟨(some 57), .call N_level_Lattice_Join [((.t 54), .fz), ((.t 55), .fz), ((.t 56), .fz)] [.fz], none, some (.int .i64)⟩,
     ⟨(some 58), .binI .neq .i64 (.t 53) (.t 57), none, some .bool⟩,
     ⟨(some 59), .mov (.t 58), none, some .bool⟩,
     ⟨(some 60), .mov (.t 5), (some (59, false)), none⟩,
     ⟨(some 61), .mov (.t 8), (some (59, false)), some (.int .i64)⟩,
     ⟨(some 62), .mov (.t 5), (some (59, false)), none⟩,
     ⟨(some 63), .mov (.t 9), (some (59, false)), some (.int .i64)⟩,
     ⟨(some 64), .mov (.t 10), (some (59, false)), some (.int .i64)⟩,
     ⟨(some 65), .call N_level_Lattice_Join [((.t 62), .fz), ((.t 63), .fz), ((.t 64), .fz)] [.fz], (some (59, false)), some (.int .i64)⟩,
     ⟨(some 66), .call N_level_Lattice_Join [((.t 60), .fz), ((.t 61), .fz), ((.t 65), .fz)] [.fz], (some (59, false)), some (.int .i64)⟩,
     ⟨(some 67), .mov (.t 5), (some (59, false)), none⟩,
     ⟨(some 68), .mov (.t 5), (some (59, false)), none⟩,
     ⟨(some 69), .mov (.t 8), (some (59, false)), some (.int .i64)⟩,
     ⟨(some 70), .mov (.t 9), (some (59, false)), some (.int .i64)⟩,
     ⟨(some 71), .call N_level_Lattice_Join [((.t 68), .fz), ((.t 69), .fz), ((.t 70), .fz)] [.fz], (some (59, false)), some (.int .i64)⟩,
     ⟨(some 72), .mov (.t 10), (some (59, false)), some (.int .i64)⟩,
     ⟨(some 73), .call N_level_Lattice_Join [((.t 67), .fz), ((.t 71), .fz), ((.t 72), .fz)] [.fz], (some (59, false)), some (.int .i64)⟩,
     ⟨(some 74), .binI .neq .i64 (.t 66) (.t 73), (some (59, false)), some .bool⟩,
     ⟨(some 75), .pick (.t 59) (.c (.fz (.bool true))) (.t 74), none, some .bool⟩,
     ⟨(some 76), .mov (.t 75), none, some .bool⟩,
     ⟨(some 77), .mov (.t 5), (some (76, false)), none⟩,
     ⟨(some 78), .mov (.t 8), (some (76, false)), some (.int .i64)⟩,
     ⟨(some 79), .mov (.t 5), (some (76, false)), none⟩,
     ⟨(some 80), .mov (.t 9), (some (76, false)), some (.int .i64)⟩,
     ⟨(some 81), .mov (.t 10), (some (76, false)), some (.int .i64)⟩,
     ⟨(some 82), .call N_level_Lattice_Meet [((.t 79), .fz), ((.t 80), .fz), ((.t 81), .fz)] [.fz], (some (76, false)), some (.int .i64)⟩,
     ⟨(some 83), .call N_level_Lattice_Meet [((.t 77), .fz), ((.t 78), .fz), ((.t 82), .fz)] [.fz], (some (76, false)), some (.int .i64)⟩,
     ⟨(some 84), .mov (.t 5), (some (76, false)), none⟩,
     ⟨(some 85), .mov (.t 5), (some (76, false)), none⟩,
     ⟨(some 86), .mov (.t 8), (some (76, false)), some (.int .i64)⟩,
     ⟨(some 87), .mov (.t 9), (some (76, false)), some (.int .i64)⟩,
     ⟨(some 88), .call N_level_Lattice_Meet [((.t 85), .fz), ((.t 86), .fz), ((.t 87), .fz)] [.fz], (some (76, false)), some (.int .i64)⟩,
     ⟨(some 89), .mov (.t 10), (some (76, false)), some (.int .i64)⟩,
     ⟨(some 90), .call N_level_Lattice_Meet [((.t 84), .fz), ((.t 88), .fz), ((.t 89), .fz)] [.fz], (some (76, false)), some (.int .i64)⟩,
     ⟨(some 91), .binI .neq .i64 (.t 83) (.t 90), (some (76, false)), some .bool⟩,
     ⟨(some 92), .pick (.t 76) (.c (.fz (.bool true))) (.t 91), none, some .bool⟩])
    (.cond (.t 92) (.seq (.region [⟨(some 4), .mov (.c (.fz (.bool false))), none, some .bool⟩])
      (.ret))
     (.skip)))
   (.trim [5, 8, 9] A_law01_LevelLaws_j2)))
def A_law01_LevelLaws : AFunc := ⟨2, [(.tmp 4, .fz)], .seq (.region [⟨(some 2), .box 3 true (.t 0), none, none⟩,
  ⟨(some 3), .box 3 true (.t 1), none, none⟩,
  ⟨(some 4), .mov (.c (.fz (.bool false))), none, some .bool⟩])
 (.seq (.region [⟨(some 12), .load 3 true (.t 2), none, none⟩,
   ⟨(some 13), .call N_level_New [((.t 12), .fz)] [.fz, .fz], none, none⟩,
   ⟨(some 11), .mov (.t 13), none, none⟩,
   ⟨(some 14), .extract (.t 11) 0, none, none⟩,
   ⟨(some 15), .extract (.t 11) 1, none, some (.int .i64)⟩,
   ⟨(some 5), .mov (.t 14), none, none⟩,
   ⟨(some 6), .mov (.t 15), none, some (.int .i64)⟩])
  (.seq (.seq (.region [⟨(some 16), .mov (.t 6), none, some (.int .i64)⟩,
     ⟨(some 17), .binI .neq .i64 (.t 16) (.c (.fz (.int .i64 0))), none, some .bool⟩,
     ⟨(some 18), .mov (.t 17), none, some .bool⟩,
     ⟨(some 19), .mov (.t 5), (some (18, false)), none⟩,
     ⟨(some 20), .call N_level_Lattice_Size [((.t 19), .fz)] [.fz], (some (18, false)), some (.int .i64)⟩,
     ⟨(some 21), .binI .eql .i64 (.t 20) (.c (.fz (.int .i64 0))), (some (18, false)), some .bool⟩,
     ⟨(some 22), .pick (.t 18) (.c (.fz (.bool true))) (.t 21), none, some .bool⟩])
    (.cond (.t 22) (.seq (.region [⟨(some 23), .call N_law01_lives [] [.fz], none, some .bool⟩,
       ⟨(some 4), .mov (.t 23), none, some .bool⟩])
      (.ret))
     (.skip)))
   (.trim [3, 5] A_law01_LevelLaws_j3)))⟩
def J_law01_LevelLaws_3_0 (R : Orc) (k : Nat) (w : Bool) (x5 : FV) (h4096_0 : Int) (h4096_1 : Int) (h4096_2 : Int) := execL R k w [] A_law01_LevelLaws_j3 Ans ⟨[(3, .ptr 4096 0 0), (5, .fz x5)], [(4095, .dead), (4096, .var 3 true (.fz (FV.ag [(FV.int .i64 h4096_0), (FV.int .i64 h4096_1), (FV.int .i64 h4096_2)])))]⟩ (kFin R [(.tmp 4, .fz)] [])
def J_law01_LevelLaws_2_0 (R : Orc) (k : Nat) (w : Bool) (x5 : FV) (x8 : Int) (x9 : Int) := execL R k w [] A_law01_LevelLaws_j2 Ans ⟨[(5, .fz x5), (8, .fz (FV.int .i64 x8)), (9, .fz (FV.int .i64 x9))], [(4095, .dead)]⟩ (kFin R [(.tmp 4, .fz)] [])
def J_law01_LevelLaws_1_0 (R : Orc) (k : Nat) (w : Bool) (x5 : FV) (x8 : Int) (x9 : Int) := execL R k w [] A_law01_LevelLaws_j1 Ans ⟨[(5, .fz x5), (8, .fz (FV.int .i64 x8)), (9, .fz (FV.int .i64 x9))], [(4095, .dead)]⟩ (kFin R [(.tmp 4, .fz)] [])
theorem E_law01_LevelLaws (R : Orc) (k : Nat) (w : Bool) (a0_0 : List FV) (a0_1 : List FV) (a0_2 : List FV) (a1_0 : Int) (a1_1 : Int) (a1_2 : Int) : callL R k w A_law01_LevelLaws [.fz (FV.ag [(FV.sl a0_0), (FV.sl a0_1), (FV.sl a0_2)]), .fz (FV.ag [(FV.int .i64 a1_0), (FV.int .i64 a1_1), (FV.int .i64 a1_2)])] = onR (R N_level_New [.fz (FV.ag [(FV.sl a0_0), (FV.sl a0_1), (FV.sl a0_2)])]) fun r0 => when (List.isEmpty r0.2 && allF [.fz, .fz] r0.1) (when (FV.isInt .i64 (TV.toF (List.getD r0.1 1 TV.em))) (ifB ((FV.toInt (TV.toF (List.getD r0.1 1 TV.em))) != 0)
  (onR (R N_law01_lives []) fun r1 => when (List.isEmpty r1.2 && allF [.fz] r1.1) (when (FV.isBool (TV.toF (List.getD r1.1 0 TV.em))) (some ([.fz (FV.bool (FV.toBool (TV.toF (List.getD r1.1 0 TV.em))))], []))))
  (onR (R N_level_Lattice_Size [.fz (TV.toF (List.getD r0.1 0 TV.em))]) fun r2 => when (List.isEmpty r2.2 && allF [.fz] r2.1) (when (FV.isInt .i64 (TV.toF (List.getD r2.1 0 TV.em))) (ifB ((FV.toInt (TV.toF (List.getD r2.1 0 TV.em))) == 0)
   (onR (R N_law01_lives []) fun r3 => when (List.isEmpty r3.2 && allF [.fz] r3.1) (when (FV.isBool (TV.toF (List.getD r3.1 0 TV.em))) (some ([.fz (FV.bool (FV.toBool (TV.toF (List.getD r3.1 0 TV.em))))], []))))
   (jump w (J_law01_LevelLaws_3_0 R k w (TV.toF (List.getD r0.1 0 TV.em)) a1_0 a1_1 a1_2))))))) := by kernel_rfl
theorem J_law01_LevelLaws_3_0_eq (R : Orc) (k : Nat) (w : Bool) (x5 : FV) (h4096_0 : Int) (h4096_1 : Int) (h4096_2 : Int) : J_law01_LevelLaws_3_0 R k w x5 h4096_0 h4096_1 h4096_2 = onR (R N_level_Lattice_Size [.fz x5]) fun r4 => when (List.isEmpty r4.2 && allF [.fz] r4.1) (when (FV.isInt .i64 (TV.toF (List.getD r4.1 0 TV.em))) (when (!decide ((FV.toInt (TV.toF (List.getD r4.1 0 TV.em))) = 0)) (when (!decide ((FV.toInt (TV.toF (List.getD r4.1 0 TV.em))) = 0)) (when (!decide ((FV.toInt (TV.toF (List.getD r4.1 0 TV.em))) = 0)) (when (!decide ((FV.toInt (TV.toF (List.getD r4.1 0 TV.em))) = 0)) (when (!decide ((FV.toInt (TV.toF (List.getD r4.1 0 TV.em))) = 0)) (when (!decide ((FV.toInt (TV.toF (List.getD r4.1 0 TV.em))) = 0)) (onR (R N_level_Lattice_Join [.fz x5, .fz (FV.int .i64 (Int.tmod (IntKind.wrap .i64 ((Int.tmod h4096_0 (FV.toInt (TV.toF (List.getD r4.1 0 TV.em)))) + (FV.toInt (TV.toF (List.getD r4.1 0 TV.em))))) (FV.toInt (TV.toF (List.getD r4.1 0 TV.em))))), .fz (FV.int .i64 (Int.tmod (IntKind.wrap .i64 ((Int.tmod h4096_1 (FV.toInt (TV.toF (List.getD r4.1 0 TV.em)))) + (FV.toInt (TV.toF (List.getD r4.1 0 TV.em))))) (FV.toInt (TV.toF (List.getD r4.1 0 TV.em)))))]) fun r5 => when (List.isEmpty r5.2 && allF [.fz] r5.1) (when (FV.isInt .i64 (TV.toF (List.getD r5.1 0 TV.em))) (onR (R N_level_Lattice_Join [.fz x5, .fz (FV.int .i64 (Int.tmod (IntKind.wrap .i64 ((Int.tmod h4096_1 (FV.toInt (TV.toF (List.getD r4.1 0 TV.em)))) + (FV.toInt (TV.toF (List.getD r4.1 0 TV.em))))) (FV.toInt (TV.toF (List.getD r4.1 0 TV.em))))), .fz (FV.int .i64 (Int.tmod (IntKind.wrap .i64 ((Int.tmod h4096_0 (FV.toInt (TV.toF (List.getD r4.1 0 TV.em)))) + (FV.toInt (TV.toF (List.getD r4.1 0 TV.em))))) (FV.toInt (TV.toF (List.getD r4.1 0 TV.em)))))]) fun r6 => when (List.isEmpty r6.2 && allF [.fz] r6.1) (when (FV.isInt .i64 (TV.toF (List.getD r6.1 0 TV.em))) (ifB ((FV.toInt (TV.toF (List.getD r5.1 0 TV.em))) != (FV.toInt (TV.toF (List.getD r6.1 0 TV.em))))
  (some ([.fz (FV.bool false)], []))
  (onR (R N_level_Lattice_Join [.fz x5, .fz (FV.int .i64 (Int.tmod (IntKind.wrap .i64 ((Int.tmod h4096_1 (FV.toInt (TV.toF (List.getD r4.1 0 TV.em)))) + (FV.toInt (TV.toF (List.getD r4.1 0 TV.em))))) (FV.toInt (TV.toF (List.getD r4.1 0 TV.em))))), .fz (FV.int .i64 (Int.tmod (IntKind.wrap .i64 ((Int.tmod h4096_2 (FV.toInt (TV.toF (List.getD r4.1 0 TV.em)))) + (FV.toInt (TV.toF (List.getD r4.1 0 TV.em))))) (FV.toInt (TV.toF (List.getD r4.1 0 TV.em)))))]) fun r7 => when (List.isEmpty r7.2 && allF [.fz] r7.1) (when (FV.isInt .i64 (TV.toF (List.getD r7.1 0 TV.em))) (onR (R N_level_Lattice_Join [.fz x5, .fz (FV.int .i64 (Int.tmod (IntKind.wrap .i64 ((Int.tmod h4096_0 (FV.toInt (TV.toF (List.getD r4.1 0 TV.em)))) + (FV.toInt (TV.toF (List.getD r4.1 0 TV.em))))) (FV.toInt (TV.toF (List.getD r4.1 0 TV.em))))), .fz (FV.int .i64 (FV.toInt (TV.toF (List.getD r7.1 0 TV.em))))]) fun r8 => when (List.isEmpty r8.2 && allF [.fz] r8.1) (when (FV.isInt .i64 (TV.toF (List.getD r8.1 0 TV.em))) (onR (R N_level_Lattice_Join [.fz x5, .fz (FV.int .i64 (Int.tmod (IntKind.wrap .i64 ((Int.tmod h4096_0 (FV.toInt (TV.toF (List.getD r4.1 0 TV.em)))) + (FV.toInt (TV.toF (List.getD r4.1 0 TV.em))))) (FV.toInt (TV.toF (List.getD r4.1 0 TV.em))))), .fz (FV.int .i64 (Int.tmod (IntKind.wrap .i64 ((Int.tmod h4096_1 (FV.toInt (TV.toF (List.getD r4.1 0 TV.em)))) + (FV.toInt (TV.toF (List.getD r4.1 0 TV.em))))) (FV.toInt (TV.toF (List.getD r4.1 0 TV.em)))))]) fun r9 => when (List.isEmpty r9.2 && allF [.fz] r9.1) (when (FV.isInt .i64 (TV.toF (List.getD r9.1 0 TV.em))) (onR (R N_level_Lattice_Join [.fz x5, .fz (FV.int .i64 (FV.toInt (TV.toF (List.getD r9.1 0 TV.em)))), .fz (FV.int .i64 (Int.tmod (IntKind.wrap .i64 ((Int.tmod h4096_2 (FV.toInt (TV.toF (List.getD r4.1 0 TV.em)))) + (FV.toInt (TV.toF (List.getD r4.1 0 TV.em))))) (FV.toInt (TV.toF (List.getD r4.1 0 TV.em)))))]) fun r10 => when (List.isEmpty r10.2 && allF [.fz] r10.1) (when (FV.isInt .i64 (TV.toF (List.getD r10.1 0 TV.em))) (ifB ((FV.toInt (TV.toF (List.getD r8.1 0 TV.em))) != (FV.toInt (TV.toF (List.getD r10.1 0 TV.em))))
   (some ([.fz (FV.bool false)], []))
   (onR (R N_level_Lattice_Meet [.fz x5, .fz (FV.int .i64 (Int.tmod (IntKind.wrap .i64 ((Int.tmod h4096_1 (FV.toInt (TV.toF (List.getD r4.1 0 TV.em)))) + (FV.toInt (TV.toF (List.getD r4.1 0 TV.em))))) (FV.toInt (TV.toF (List.getD r4.1 0 TV.em))))), .fz (FV.int .i64 (Int.tmod (IntKind.wrap .i64 ((Int.tmod h4096_2 (FV.toInt (TV.toF (List.getD r4.1 0 TV.em)))) + (FV.toInt (TV.toF (List.getD r4.1 0 TV.em))))) (FV.toInt (TV.toF (List.getD r4.1 0 TV.em)))))]) fun r11 => when (List.isEmpty r11.2 && allF [.fz] r11.1) (when (FV.isInt .i64 (TV.toF (List.getD r11.1 0 TV.em))) (onR (R N_level_Lattice_Meet [.fz x5, .fz (FV.int .i64 (Int.tmod (IntKind.wrap .i64 ((Int.tmod h4096_0 (FV.toInt (TV.toF (List.getD r4.1 0 TV.em)))) + (FV.toInt (TV.toF (List.getD r4.1 0 TV.em))))) (FV.toInt (TV.toF (List.getD r4.1 0 TV.em))))), .fz (FV.int .i64 (FV.toInt (TV.toF (List.getD r11.1 0 TV.em))))]) fun r12 => when (List.isEmpty r12.2 && allF [.fz] r12.1) (when (FV.isInt .i64 (TV.toF (List.getD r12.1 0 TV.em))) (onR (R N_level_Lattice_Meet [.fz x5, .fz (FV.int .i64 (Int.tmod (IntKind.wrap .i64 ((Int.tmod h4096_0 (FV.toInt (TV.toF (List.getD r4.1 0 TV.em)))) + (FV.toInt (TV.toF (List.getD r4.1 0 TV.em))))) (FV.toInt (TV.toF (List.getD r4.1 0 TV.em))))), .fz (FV.int .i64 (Int.tmod (IntKind.wrap .i64 ((Int.tmod h4096_1 (FV.toInt (TV.toF (List.getD r4.1 0 TV.em)))) + (FV.toInt (TV.toF (List.getD r4.1 0 TV.em))))) (FV.toInt (TV.toF (List.getD r4.1 0 TV.em)))))]) fun r13 => when (List.isEmpty r13.2 && allF [.fz] r13.1) (when (FV.isInt .i64 (TV.toF (List.getD r13.1 0 TV.em))) (onR (R N_level_Lattice_Meet [.fz x5, .fz (FV.int .i64 (FV.toInt (TV.toF (List.getD r13.1 0 TV.em)))), .fz (FV.int .i64 (Int.tmod (IntKind.wrap .i64 ((Int.tmod h4096_2 (FV.toInt (TV.toF (List.getD r4.1 0 TV.em)))) + (FV.toInt (TV.toF (List.getD r4.1 0 TV.em))))) (FV.toInt (TV.toF (List.getD r4.1 0 TV.em)))))]) fun r14 => when (List.isEmpty r14.2 && allF [.fz] r14.1) (when (FV.isInt .i64 (TV.toF (List.getD r14.1 0 TV.em))) (ifB ((FV.toInt (TV.toF (List.getD r12.1 0 TV.em))) != (FV.toInt (TV.toF (List.getD r14.1 0 TV.em))))
    (some ([.fz (FV.bool false)], []))
    (jump w (J_law01_LevelLaws_2_0 R k w x5 (Int.tmod (IntKind.wrap .i64 ((Int.tmod h4096_0 (FV.toInt (TV.toF (List.getD r4.1 0 TV.em)))) + (FV.toInt (TV.toF (List.getD r4.1 0 TV.em))))) (FV.toInt (TV.toF (List.getD r4.1 0 TV.em)))) (Int.tmod (IntKind.wrap .i64 ((Int.tmod h4096_1 (FV.toInt (TV.toF (List.getD r4.1 0 TV.em)))) + (FV.toInt (TV.toF (List.getD r4.1 0 TV.em))))) (FV.toInt (TV.toF (List.getD r4.1 0 TV.em)))))))))))))))))))))))))))))))))))) := by kernel_rfl
theorem J_law01_LevelLaws_2_0_eq (R : Orc) (k : Nat) (w : Bool) (x5 : FV) (x8 : Int) (x9 : Int) : J_law01_LevelLaws_2_0 R k w x5 x8 x9 = onR (R N_level_Lattice_Meet [.fz x5, .fz (FV.int .i64 x8), .fz (FV.int .i64 x9)]) fun r15 => when (List.isEmpty r15.2 && allF [.fz] r15.1) (when (FV.isInt .i64 (TV.toF (List.getD r15.1 0 TV.em))) (onR (R N_level_Lattice_Join [.fz x5, .fz (FV.int .i64 x8), .fz (FV.int .i64 (FV.toInt (TV.toF (List.getD r15.1 0 TV.em))))]) fun r16 => when (List.isEmpty r16.2 && allF [.fz] r16.1) (when (FV.isInt .i64 (TV.toF (List.getD r16.1 0 TV.em))) (ifB ((FV.toInt (TV.toF (List.getD r16.1 0 TV.em))) != x8)
  (some ([.fz (FV.bool false)], []))
  (onR (R N_level_Lattice_Join [.fz x5, .fz (FV.int .i64 x8), .fz (FV.int .i64 x9)]) fun r17 => when (List.isEmpty r17.2 && allF [.fz] r17.1) (when (FV.isInt .i64 (TV.toF (List.getD r17.1 0 TV.em))) (onR (R N_level_Lattice_Meet [.fz x5, .fz (FV.int .i64 x8), .fz (FV.int .i64 (FV.toInt (TV.toF (List.getD r17.1 0 TV.em))))]) fun r18 => when (List.isEmpty r18.2 && allF [.fz] r18.1) (when (FV.isInt .i64 (TV.toF (List.getD r18.1 0 TV.em))) (ifB ((FV.toInt (TV.toF (List.getD r18.1 0 TV.em))) != x8)
   (some ([.fz (FV.bool false)], []))
   (onR (R N_level_Lattice_Join [.fz x5, .fz (FV.int .i64 x8), .fz (FV.int .i64 x8)]) fun r19 => when (List.isEmpty r19.2 && allF [.fz] r19.1) (when (FV.isInt .i64 (TV.toF (List.getD r19.1 0 TV.em))) (ifB ((FV.toInt (TV.toF (List.getD r19.1 0 TV.em))) != x8)
    (some ([.fz (FV.bool false)], []))
    (onR (R N_level_Lattice_Meet [.fz x5, .fz (FV.int .i64 x8), .fz (FV.int .i64 x8)]) fun r20 => when (List.isEmpty r20.2 && allF [.fz] r20.1) (when (FV.isInt .i64 (TV.toF (List.getD r20.1 0 TV.em))) (ifB ((FV.toInt (TV.toF (List.getD r20.1 0 TV.em))) != x8)
     (some ([.fz (FV.bool false)], []))
     (jump w (J_law01_LevelLaws_1_0 R k w x5 x8 x9))))))))))))))))) := by kernel_rfl
theorem J_law01_LevelLaws_1_0_eq (R : Orc) (k : Nat) (w : Bool) (x5 : FV) (x8 : Int) (x9 : Int) : J_law01_LevelLaws_1_0 R k w x5 x8 x9 = onR (R N_level_Lattice_Leq [.fz x5, .fz (FV.int .i64 x8), .fz (FV.int .i64 x9)]) fun r21 => when (List.isEmpty r21.2 && allF [.fz] r21.1) (when (FV.isBool (TV.toF (List.getD r21.1 0 TV.em))) (onR (R N_level_Lattice_Join [.fz x5, .fz (FV.int .i64 x8), .fz (FV.int .i64 x9)]) fun r22 => when (List.isEmpty r22.2 && allF [.fz] r22.1) (when (FV.isInt .i64 (TV.toF (List.getD r22.1 0 TV.em))) (ifB ((FV.toBool (TV.toF (List.getD r21.1 0 TV.em))) == ((FV.toInt (TV.toF (List.getD r22.1 0 TV.em))) == x9))
  (onR (R N_level_Lattice_Leq [.fz x5, .fz (FV.int .i64 x8), .fz (FV.int .i64 x9)]) fun r23 => when (List.isEmpty r23.2 && allF [.fz] r23.1) (when (FV.isBool (TV.toF (List.getD r23.1 0 TV.em))) (onR (R N_level_Lattice_Meet [.fz x5, .fz (FV.int .i64 x8), .fz (FV.int .i64 x9)]) fun r24 => when (List.isEmpty r24.2 && allF [.fz] r24.1) (when (FV.isInt .i64 (TV.toF (List.getD r24.1 0 TV.em))) (ifB ((FV.toBool (TV.toF (List.getD r23.1 0 TV.em))) == ((FV.toInt (TV.toF (List.getD r24.1 0 TV.em))) == x8))
   (onR (R N_level_Lattice_Join [.fz x5, .fz (FV.int .i64 x8), .fz (FV.int .i64 x9)]) fun r25 => when (List.isEmpty r25.2 && allF [.fz] r25.1) (when (FV.isInt .i64 (TV.toF (List.getD r25.1 0 TV.em))) (onR (R N_level_Lattice_Leq [.fz x5, .fz (FV.int .i64 x8), .fz (FV.int .i64 (FV.toInt (TV.toF (List.getD r25.1 0 TV.em))))]) fun r26 => when (List.isEmpty r26.2 && allF [.fz] r26.1) (when (FV.isBool (TV.toF (List.getD r26.1 0 TV.em))) (ifB (FV.toBool (TV.toF (List.getD r26.1 0 TV.em)))
    (onR (R N_level_Lattice_Meet [.fz x5, .fz (FV.int .i64 x8), .fz (FV.int .i64 x9)]) fun r27 => when (List.isEmpty r27.2 && allF [.fz] r27.1) (when (FV.isInt .i64 (TV.toF (List.getD r27.1 0 TV.em))) (onR (R N_level_Lattice_Leq [.fz x5, .fz (FV.int .i64 (FV.toInt (TV.toF (List.getD r27.1 0 TV.em)))), .fz (FV.int .i64 x9)]) fun r28 => when (List.isEmpty r28.2 && allF [.fz] r28.1) (when (FV.isBool (TV.toF (List.getD r28.1 0 TV.em))) (ifB (FV.toBool (TV.toF (List.getD r28.1 0 TV.em)))
     (onR (R N_law01_lives []) fun r29 => when (List.isEmpty r29.2 && allF [.fz] r29.1) (when (FV.isBool (TV.toF (List.getD r29.1 0 TV.em))) (some ([.fz (FV.bool (FV.toBool (TV.toF (List.getD r29.1 0 TV.em))))], []))))
     (some ([.fz (FV.bool false)], [])))))))
    (some ([.fz (FV.bool false)], [])))))))
   (some ([.fz (FV.bool false)], [])))))))
  (some ([.fz (FV.bool false)], [])))))) := by kernel_rfl
/-! keyhole/keyholelaw01.LevelFollows -/
def A_law01_LevelFollows_b1 : ACode := .seq (.seq (.region [⟨(some 77), .mov (.t 12), none, some (.int .i64)⟩,
   ⟨(some 78), .mov (.t 5), none, none⟩,
   ⟨(some 79), .call N_level_Lattice_Size [((.t 78), .fz)] [.fz], none, some (.int .i64)⟩,
   ⟨(some 80), .binI .lss .i64 (.t 77) (.t 79), none, some .bool⟩])
  (.cond (.t 80) (.skip)
   (.exit 2)))
 (.seq (.block 3 (.seq (.region [⟨(some 83), .mov (.t 5), none, none⟩,
     ⟨(some 84), .mov (.t 11), none, some (.int .i64)⟩,
     ⟨(some 85), .mov (.t 12), none, some (.int .i64)⟩,
     ⟨(some 86), .call N_level_Lattice_Leq [((.t 83), .fz), ((.t 84), .fz), ((.t 85), .fz)] [.fz], none, some .bool⟩,
     ⟨(some 87), .mov (.t 9), none, none⟩,
     ⟨(some 88), .mov (.t 11), none, some (.int .i64)⟩,
     ⟨(some 89), .mov (.t 12), none, some (.int .i64)⟩,
     ⟨(some 90), .call N_level_Lattice_Leq [((.t 87), .fz), ((.t 88), .fz), ((.t 89), .fz)] [.fz], none, some .bool⟩,
     ⟨(some 91), .binB true (.t 86) (.t 90), none, some .bool⟩,
     ⟨(some 92), .mov (.t 91), none, some .bool⟩,
     ⟨(some 93), .mov (.t 5), (some (92, false)), none⟩,
     ⟨(some 94), .mov (.t 11), (some (92, false)), some (.int .i64)⟩,
     ⟨(some 95), .mov (.t 12), (some (92, false)), some (.int .i64)⟩,
     ⟨(some 96), .call N_level_Lattice_Join [((.t 93), .fz), ((.t 94), .fz), ((.t 95), .fz)] [.fz], (some (92, false)), some (.int .i64)⟩,
     ⟨(some 97), .mov (.t 9), (some (92, false)), none⟩,
     ⟨(some 98), .mov (.t 11), (some (92, false)), some (.int .i64)⟩,
     ⟨(some 99), .mov (.t 12), (some (92, false)), some (.int .i64)⟩,
     ⟨(some 100), .call N_level_Lattice_Join [((.t 97), .fz), ((.t 98), .fz), ((.t 99), .fz)] [.fz], (some (92, false)), some (.int .i64)⟩,
     ⟨(some 101), .binI .neq .i64 (.t 96) (.t 100), (some (92, false)), some .bool⟩,
     ⟨(some 102), .pick (.t 92) (.c (.fz (.bool true))) (.t 101), none, some .bool⟩,
     ⟨(some 103), .mov (.t 102), none, some .bool⟩,
     ⟨(some 104), .mov (.t 5), (some (103, false)), none⟩,
     ⟨(some 105), .mov (.t 11), (some (103, false)), some (.int .i64)⟩,
     ⟨(some 106), .mov (.t 12), (some (103, false)), some (.int .i64)⟩,
     ⟨(some 107), .call N_level_Lattice_Meet [((.t 104), .fz), ((.t 105), .fz), ((.t 106), .fz)] [.fz], (some (103, false)), some (.int .i64)⟩,
     ⟨(some 108), .mov (.t 9), (some (103, false)), none⟩,
     ⟨(some 109), .mov (.t 11), (some (103, false)), some (.int .i64)⟩,
     ⟨(some 110), .mov (.t 12), (some (103, false)), some (.int .i64)⟩,
     ⟨(some 111), .call N_level_Lattice_Meet [((.t 108), .fz), ((.t 109), .fz), ((.t 110), .fz)] [.fz], (some (103, false)), some (.int .i64)⟩,
     ⟨(some 112), .binI .neq .i64 (.t 107) (.t 111), (some (103, false)), some .bool⟩,
     ⟨(some 113), .pick (.t 103) (.c (.fz (.bool true))) (.t 112), none, some .bool⟩])
    (.cond (.t 113) (.seq (.region [⟨(some 4), .mov (.c (.fz (.bool false))), none, some .bool⟩])
      (.ret))
     (.skip))))
  (.region [⟨(some 81), .mov (.t 12), none, some (.int .i64)⟩,
   ⟨(some 82), .binI .add .i64 (.t 81) (.c (.fz (.int .i64 1))), none, some (.int .i64)⟩,
   ⟨(some 12), .mov (.t 82), none, some (.int .i64)⟩]))
def A_law01_LevelFollows_s1 : ACode := .region [⟨(some 75), .mov (.t 11), none, some (.int .i64)⟩,
 ⟨(some 76), .binI .add .i64 (.t 75) (.c (.fz (.int .i64 1))), none, some (.int .i64)⟩,
 ⟨(some 11), .mov (.t 76), none, some (.int .i64)⟩]
def A_law01_LevelFollows_b2 : ACode := .seq (.seq (.region [⟨(some 71), .mov (.t 11), none, some (.int .i64)⟩,
   ⟨(some 72), .mov (.t 5), none, none⟩,
   ⟨(some 73), .call N_level_Lattice_Size [((.t 72), .fz)] [.fz], none, some (.int .i64)⟩,
   ⟨(some 74), .binI .lss .i64 (.t 71) (.t 73), none, some .bool⟩])
  (.cond (.t 74) (.skip)
   (.exit 0)))
 (.seq (.block 1 (.seq (.region [⟨(some 12), .mov (.c (.fz (.int .i64 0))), none, some (.int .i64)⟩])
    (.block 2 (.loop [5, 9, 11, 12] [4, 5, 9, 11] A_law01_LevelFollows_b1))))
  A_law01_LevelFollows_s1)
def A_law01_LevelFollows_s2 : ACode := .seq (.region [⟨(some 114), .call N_law01_lives [] [.fz], none, some .bool⟩,
  ⟨(some 4), .mov (.t 114), none, some .bool⟩])
 (.ret)
def A_law01_LevelFollows_j3 : ACode := .seq (.seq (.region [⟨(some 11), .mov (.c (.fz (.int .i64 0))), none, some (.int .i64)⟩])
  (.block 0 (.loop [5, 9, 11] [4] A_law01_LevelFollows_b2)))
 A_law01_LevelFollows_s2
def A_law01_LevelFollows_j4 : ACode := .seq (.region [⟨(some 41), .load 3 true (.t 2), none, none⟩,
  ⟨(some 7), .alloc 3 true (.ag [.nils, .nils, .nils]), none, none⟩,
  ⟨none, .store 3 true (.t 7) (.t 41), none, none⟩])
 (.seq (.region [⟨(some 8), .mov (.c (.nils)), none, none⟩])
  (.seq (.draws [⟨⟨(some 42), .mov (.t 8), none, none⟩, []⟩,
    ⟨⟨(some 43), .fadr 1 (.t 2), none, none⟩, []⟩,
    ⟨⟨(some 44), .load 1 false (.t 43), none, none⟩, [1]⟩,
    ⟨⟨(some 45), .append 2 true 16 false (.t 42) (.t 44), none, none⟩, [0, 2]⟩,
    ⟨⟨(some 46), .load 2 true (.t 3), none, none⟩, []⟩,
    ⟨⟨(some 47), .buildSl 2 true 1 (.ag [.int .i64 0, .int .i64 0]) [(0, (.t 46))], none, none⟩, [4]⟩,
    ⟨⟨(some 48), .append 2 true 16 false (.t 45) (.t 47), none, none⟩, [3, 5, 3]⟩,
    ⟨⟨(some 49), .fadr 1 (.t 7), none, none⟩, [0, 1, 2, 3, 4, 5, 6]⟩,
    ⟨⟨none, .store 1 false (.t 49) (.t 48), none, none⟩, [7, 6, 6, 0, 1, 2, 3, 4, 5, 6]⟩])
   (.seq (.region [⟨(some 51), .load 3 true (.t 7), none, none⟩,
     ⟨(some 52), .call N_level_New [((.t 51), .fz)] [.fz, .fz], none, none⟩,
     ⟨(some 50), .mov (.t 52), none, none⟩,
     ⟨(some 53), .extract (.t 50) 0, none, none⟩,
     ⟨(some 54), .extract (.t 50) 1, none, some (.int .i64)⟩,
     ⟨(some 9), .mov (.t 53), none, none⟩,
     ⟨(some 10), .mov (.t 54), none, some (.int .i64)⟩])
    (.seq (.seq (.region [⟨(some 55), .mov (.t 10), none, some (.int .i64)⟩,
       ⟨(some 56), .binI .neq .i64 (.t 55) (.c (.fz (.int .i64 0))), none, some .bool⟩,
       ⟨(some 57), .mov (.t 56), none, some .bool⟩,
       ⟨(some 58), .mov (.t 9), (some (57, false)), none⟩,
       ⟨(some 59), .call N_level_Lattice_Bottom [((.t 58), .fz)] [.fz], (some (57, false)), some (.int .i64)⟩,
       ⟨(some 60), .mov (.t 5), (some (57, false)), none⟩,
       ⟨(some 61), .call N_level_Lattice_Bottom [((.t 60), .fz)] [.fz], (some (57, false)), some (.int .i64)⟩,
       ⟨(some 62), .binI .neq .i64 (.t 59) (.t 61), (some (57, false)), some .bool⟩,
       ⟨(some 63), .pick (.t 57) (.c (.fz (.bool true))) (.t 62), none, some .bool⟩,
       ⟨(some 64), .mov (.t 63), none, some .bool⟩,
       ⟨(some 65), .mov (.t 9), (some (64, false)), none⟩,
       ⟨(some 66), .call N_level_Lattice_Top [((.t 65), .fz)] [.fz], (some (64, false)), some (.int .i64)⟩,
       ⟨(some 67), .mov (.t 5), (some (64, false)), none⟩,
       ⟨(some 68), .call N_level_Lattice_Top [((.t 67), .fz)] [.fz], (some (64, false)), some (.int .i64)⟩,
       ⟨(some 69), .binI .neq .i64 (.t 66) (.t 68), (some (64, false)), some .bool⟩,
       ⟨(some 70), .pick (.t 64) (.c (.fz (.bool true))) (.t 69), none, some .bool⟩])
      (.cond (.t 70) (.seq (.region [⟨(some 4), .mov (.c (.fz (.bool false))), none, some .bool⟩])
        (.ret))
       (.skip)))
     (.trim [5, 9] A_law01_LevelFollows_j3)))))
def A_law01_LevelFollows : AFunc := ⟨2, [(.tmp 4, .fz)], .seq (.region [⟨(some 2), .box 3 true (.t 0), none, none⟩,
  ⟨(some 3), .box 2 true (.t 1), none, none⟩,
  ⟨(some 4), .mov (.c (.fz (.bool false))), none, some .bool⟩])
 (.seq (.region [⟨(some 14), .load 3 true (.t 2), none, none⟩,
   ⟨(some 15), .call N_level_New [((.t 14), .fz)] [.fz, .fz], none, none⟩,
   ⟨(some 13), .mov (.t 15), none, none⟩,
   ⟨(some 16), .extract (.t 13) 0, none, none⟩,
   ⟨(some 17), .extract (.t 13) 1, none, some (.int .i64)⟩,
   ⟨(some 5), .mov (.t 16), none, none⟩,
   ⟨(some 6), .mov (.t 17), none, some (.int .i64)⟩])
  (.seq (.seq (.region [⟨(some 18), .load 3 true (.t 2), none, none⟩,
     ⟨(some 19), .call N_law01_light [((.t 18), .fz)] [.fz], none, some .bool⟩,
     ⟨(some 20), .notB (.t 19), none, some .bool⟩,
     ⟨(some 21), .mov (.t 20), none, some .bool⟩,
     ⟨(some 22), .mov (.t 6), (some (21, false)), some (.int .i64)⟩,
     ⟨(some 23), .binI .neq .i64 (.t 22) (.c (.fz (.int .i64 0))), (some (21, false)), some .bool⟩,
     ⟨(some 24), .pick (.t 21) (.c (.fz (.bool true))) (.t 23), none, some .bool⟩,
     ⟨(some 25), .mov (.t 24), none, some .bool⟩,
     ⟨(some 26), .fadr 1 (.t 2), (some (25, false)), none⟩,
     ⟨(some 27), .load 1 false (.t 26), (some (25, false)), none⟩,
     ⟨(some 28), .len (.sl 2 true) (.t 27), (some (25, false)), some (.int .i64)⟩,
     ⟨(some 29), .binI .geq .i64 (.t 28) (.c (.fz (.int .i64 64))), (some (25, false)), some .bool⟩,
     ⟨(some 30), .pick (.t 25) (.c (.fz (.bool true))) (.t 29), none, some .bool⟩,
     ⟨(some 31), .mov (.t 30), none, some .bool⟩,
     ⟨(some 32), .mov (.t 5), (some (31, false)), none⟩,
     ⟨(some 33), .iadr (.arr 2 1 false) (.t 3) (.c (.fz (.int .i64 0))), (some (31, false)), none⟩,
     ⟨(some 34), .load 1 false (.t 33), (some (31, false)), some (.int .i64)⟩,
     ⟨(some 35), .iadr (.arr 2 1 false) (.t 3) (.c (.fz (.int .i64 1))), (some (31, false)), none⟩,
     ⟨(some 36), .load 1 false (.t 35), (some (31, false)), some (.int .i64)⟩,
     ⟨(some 37), .call N_level_Lattice_Leq [((.t 32), .fz), ((.t 34), .fz), ((.t 36), .fz)] [.fz], (some (31, false)), some .bool⟩,
     ⟨(some 38), .notB (.t 37), (some (31, false)), some .bool⟩,
     ⟨(some 39), .pick (.t 31) (.c (.fz (.bool true))) (.t 38), none, some .bool⟩])
    (.cond (.t 39) (.seq (.region [⟨(some 40), .call N_law01_lives [] [.fz], none, some .bool⟩,
       ⟨(some 4), .mov (.t 40), none, some .bool⟩])
      (.ret))
     (.skip)))
   (.trim [2, 3, 5] A_law01_LevelFollows_j4)))⟩
def J_law01_LevelFollows_4_0 (R : Orc) (k : Nat) (w : Bool) (x5 : FV) (h4096_0 : List FV) (h4096_1 : List FV) (h4096_2 : List FV) (h4097_0 : Int) (h4097_1 : Int) := execL R k w [] A_law01_LevelFollows_j4 Ans ⟨[(2, .ptr 4096 0 0), (3, .ptr 4097 0 0), (5, .fz x5)], [(4095, .dead), (4096, .var 3 true (.fz (FV.ag [(FV.sl h4096_0), (FV.sl h4096_1), (FV.sl h4096_2)]))), (4097, .var 2 true (.fz (FV.ag [(FV.int .i64 h4097_0), (FV.int .i64 h4097_1)])))]⟩ (kFin R [(.tmp 4, .fz)] [])
def J_law01_LevelFollows_3_0 (R : Orc) (k : Nat) (w : Bool) (x5 : FV) (x9 : FV) := execL R k w [] A_law01_LevelFollows_j3 Ans ⟨[(5, .fz x5), (9, .fz x9)], [(4095, .dead)]⟩ (kFin R [(.tmp 4, .fz)] [])
def K_law01_LevelFollows_2 (R : Orc) (k : Nat) (w : Bool) : AExit → St → Option Ans := (kBlk 0 (kSeq R k w [] A_law01_LevelFollows_s2 (kFin R [(.tmp 4, .fz)] [])))
def L_law01_LevelFollows_2_0 (R : Orc) (k : Nat) (w : Bool) (n : Nat) (x5 : FV) (x9 : FV) (x11 : Int) := loopL R k w [] [5, 9, 11] [4] A_law01_LevelFollows_b2 n ⟨[(5, .fz x5), (9, .fz x9), (11, .fz (FV.int .i64 x11))], [(4095, .dead)]⟩
def K_law01_LevelFollows_1 (R : Orc) (k : Nat) (w : Bool) (n : Nat) : AExit → St → Option (AExit × St) := (kBlk 2 (kBlk 1 (kSeq R k w [] A_law01_LevelFollows_s1 (kLoop R k w [] [5, 9, 11] [4] A_law01_LevelFollows_b2 n))))
def L_law01_LevelFollows_1_0 (R : Orc) (k : Nat) (w : Bool) (n : Nat) (x5 : FV) (x9 : FV) (x11 : Int) (x12 : Int) := loopL R k w [] [5, 9, 11, 12] [4, 5, 9, 11] A_law01_LevelFollows_b1 n ⟨[(5, .fz x5), (9, .fz x9), (11, .fz (FV.int .i64 x11)), (12, .fz (FV.int .i64 x12))], [(4095, .dead)]⟩
def X_law01_LevelFollows_2_0 : St := ⟨[], [(4095, .dead)]⟩
def X_law01_LevelFollows_1_0 (x4 : Bool) (x5 : FV) (x9 : FV) (x11 : Int) : St := ⟨[(4, .fz (FV.bool x4)), (5, .fz x5), (9, .fz x9), (11, .fz (FV.int .i64 x11))], [(4095, .dead)]⟩
def X_law01_LevelFollows_1_1 (x5 : FV) (x9 : FV) (x11 : Int) : St := ⟨[(5, .fz x5), (9, .fz x9), (11, .fz (FV.int .i64 x11))], [(4095, .dead)]⟩
def X_law01_LevelFollows_2_1 (x4 : Bool) : St := ⟨[(4, .fz (FV.bool x4))], [(4095, .dead)]⟩
theorem E_law01_LevelFollows (R : Orc) (k : Nat) (w : Bool) (a0_0 : List FV) (a0_1 : List FV) (a0_2 : List FV) (a1_0 : Int) (a1_1 : Int) : callL R k w A_law01_LevelFollows [.fz (FV.ag [(FV.sl a0_0), (FV.sl a0_1), (FV.sl a0_2)]), .fz (FV.ag [(FV.int .i64 a1_0), (FV.int .i64 a1_1)])] = onR (R N_level_New [.fz (FV.ag [(FV.sl a0_0), (FV.sl a0_1), (FV.sl a0_2)])]) fun r0 => when (List.isEmpty r0.2 && allF [.fz, .fz] r0.1) (when (FV.isInt .i64 (TV.toF (List.getD r0.1 1 TV.em))) (onR (R N_law01_light [.fz (FV.ag [(FV.sl a0_0), (FV.sl a0_1), (FV.sl a0_2)])]) fun r1 => when (List.isEmpty r1.2 && allF [.fz] r1.1) (when (FV.isBool (TV.toF (List.getD r1.1 0 TV.em))) (ifB (!(FV.toBool (TV.toF (List.getD r1.1 0 TV.em))))
  (onR (R N_law01_lives []) fun r2 => when (List.isEmpty r2.2 && allF [.fz] r2.1) (when (FV.isBool (TV.toF (List.getD r2.1 0 TV.em))) (some ([.fz (FV.bool (FV.toBool (TV.toF (List.getD r2.1 0 TV.em))))], []))))
  (ifB ((FV.toInt (TV.toF (List.getD r0.1 1 TV.em))) != 0)
   (onR (R N_law01_lives []) fun r3 => when (List.isEmpty r3.2 && allF [.fz] r3.1) (when (FV.isBool (TV.toF (List.getD r3.1 0 TV.em))) (some ([.fz (FV.bool (FV.toBool (TV.toF (List.getD r3.1 0 TV.em))))], []))))
   (ifB (decide ((List.length a0_1 : Int) ≥ 64))
    (onR (R N_law01_lives []) fun r4 => when (List.isEmpty r4.2 && allF [.fz] r4.1) (when (FV.isBool (TV.toF (List.getD r4.1 0 TV.em))) (some ([.fz (FV.bool (FV.toBool (TV.toF (List.getD r4.1 0 TV.em))))], []))))
    (onR (R N_level_Lattice_Leq [.fz (TV.toF (List.getD r0.1 0 TV.em)), .fz (FV.int .i64 a1_0), .fz (FV.int .i64 a1_1)]) fun r5 => when (List.isEmpty r5.2 && allF [.fz] r5.1) (when (FV.isBool (TV.toF (List.getD r5.1 0 TV.em))) (ifB (!(FV.toBool (TV.toF (List.getD r5.1 0 TV.em))))
     (onR (R N_law01_lives []) fun r6 => when (List.isEmpty r6.2 && allF [.fz] r6.1) (when (FV.isBool (TV.toF (List.getD r6.1 0 TV.em))) (some ([.fz (FV.bool (FV.toBool (TV.toF (List.getD r6.1 0 TV.em))))], []))))
     (jump w (J_law01_LevelFollows_4_0 R k w (TV.toF (List.getD r0.1 0 TV.em)) a0_0 a0_1 a0_2 a1_0 a1_1))))))))))) := by kernel_rfl
theorem J_law01_LevelFollows_4_0_eq (R : Orc) (k : Nat) (w : Bool) (x5 : FV) (h4096_0 : List FV) (h4096_1 : List FV) (h4096_2 : List FV) (h4097_0 : Int) (h4097_1 : Int) : J_law01_LevelFollows_4_0 R k w x5 h4096_0 h4096_1 h4096_2 h4097_0 h4097_1 = when (List.all h4096_1 (FV.fits 2 true)) (when (decide (((0 : Nat) + List.length h4096_1) * 16 ≤ roomy) && decide ((0 : Nat) + List.length h4096_1 ≤ roomy)) (ifB (List.isEmpty h4096_1)
  (when (decide (((0 : Nat) + List.length [(FV.ag [(FV.int .i64 h4097_0), (FV.int .i64 h4097_1)])]) * 16 ≤ roomy) && decide ((0 : Nat) + List.length [(FV.ag [(FV.int .i64 h4097_0), (FV.int .i64 h4097_1)])] ≤ roomy)) (onR (R N_level_New [.fz (FV.ag [(FV.sl h4096_0), (FV.sl [(FV.ag [(FV.int .i64 h4097_0), (FV.int .i64 h4097_1)])]), (FV.sl h4096_2)])]) fun r7 => when (List.isEmpty r7.2 && allF [.fz, .fz] r7.1) (when (FV.isInt .i64 (TV.toF (List.getD r7.1 1 TV.em))) (ifB ((FV.toInt (TV.toF (List.getD r7.1 1 TV.em))) != 0)
   (some ([.fz (FV.bool false)], []))
   (onR (R N_level_Lattice_Bottom [.fz (TV.toF (List.getD r7.1 0 TV.em))]) fun r8 => when (List.isEmpty r8.2 && allF [.fz] r8.1) (when (FV.isInt .i64 (TV.toF (List.getD r8.1 0 TV.em))) (onR (R N_level_Lattice_Bottom [.fz x5]) fun r9 => when (List.isEmpty r9.2 && allF [.fz] r9.1) (when (FV.isInt .i64 (TV.toF (List.getD r9.1 0 TV.em))) (ifB ((FV.toInt (TV.toF (List.getD r8.1 0 TV.em))) != (FV.toInt (TV.toF (List.getD r9.1 0 TV.em))))
    (some ([.fz (FV.bool false)], []))
    (onR (R N_level_Lattice_Top [.fz (TV.toF (List.getD r7.1 0 TV.em))]) fun r10 => when (List.isEmpty r10.2 && allF [.fz] r10.1) (when (FV.isInt .i64 (TV.toF (List.getD r10.1 0 TV.em))) (onR (R N_level_Lattice_Top [.fz x5]) fun r11 => when (List.isEmpty r11.2 && allF [.fz] r11.1) (when (FV.isInt .i64 (TV.toF (List.getD r11.1 0 TV.em))) (ifB ((FV.toInt (TV.toF (List.getD r10.1 0 TV.em))) != (FV.toInt (TV.toF (List.getD r11.1 0 TV.em))))
     (some ([.fz (FV.bool false)], []))
     (jump w (J_law01_LevelFollows_3_0 R k w x5 (TV.toF (List.getD r7.1 0 TV.em))))))))))))))))))
  (when (decide ((List.length h4096_1 + List.length [(FV.ag [(FV.int .i64 h4097_0), (FV.int .i64 h4097_1)])]) * 16 ≤ roomy) && decide (List.length h4096_1 + List.length [(FV.ag [(FV.int .i64 h4097_0), (FV.int .i64 h4097_1)])] ≤ roomy)) (onR (R N_level_New [.fz (FV.ag [(FV.sl h4096_0), (FV.sl (h4096_1 ++ [(FV.ag [(FV.int .i64 h4097_0), (FV.int .i64 h4097_1)])])), (FV.sl h4096_2)])]) fun r12 => when (List.isEmpty r12.2 && allF [.fz, .fz] r12.1) (when (FV.isInt .i64 (TV.toF (List.getD r12.1 1 TV.em))) (ifB ((FV.toInt (TV.toF (List.getD r12.1 1 TV.em))) != 0)
   (some ([.fz (FV.bool false)], []))
   (onR (R N_level_Lattice_Bottom [.fz (TV.toF (List.getD r12.1 0 TV.em))]) fun r13 => when (List.isEmpty r13.2 && allF [.fz] r13.1) (when (FV.isInt .i64 (TV.toF (List.getD r13.1 0 TV.em))) (onR (R N_level_Lattice_Bottom [.fz x5]) fun r14 => when (List.isEmpty r14.2 && allF [.fz] r14.1) (when (FV.isInt .i64 (TV.toF (List.getD r14.1 0 TV.em))) (ifB ((FV.toInt (TV.toF (List.getD r13.1 0 TV.em))) != (FV.toInt (TV.toF (List.getD r14.1 0 TV.em))))
    (some ([.fz (FV.bool false)], []))
    (onR (R N_level_Lattice_Top [.fz (TV.toF (List.getD r12.1 0 TV.em))]) fun r15 => when (List.isEmpty r15.2 && allF [.fz] r15.1) (when (FV.isInt .i64 (TV.toF (List.getD r15.1 0 TV.em))) (onR (R N_level_Lattice_Top [.fz x5]) fun r16 => when (List.isEmpty r16.2 && allF [.fz] r16.1) (when (FV.isInt .i64 (TV.toF (List.getD r16.1 0 TV.em))) (ifB ((FV.toInt (TV.toF (List.getD r15.1 0 TV.em))) != (FV.toInt (TV.toF (List.getD r16.1 0 TV.em))))
     (some ([.fz (FV.bool false)], []))
     (jump w (J_law01_LevelFollows_3_0 R k w x5 (TV.toF (List.getD r12.1 0 TV.em)))))))))))))))))))) := by kernel_rfl
theorem J_law01_LevelFollows_3_0_eq (R : Orc) (k : Nat) (w : Bool) (x5 : FV) (x9 : FV) : J_law01_LevelFollows_3_0 R k w x5 x9 = onL (L_law01_LevelFollows_2_0 R k w k x5 x9 0) (K_law01_LevelFollows_2 R k w) := by kernel_rfl
theorem L_law01_LevelFollows_2_0_eq (R : Orc) (k : Nat) (w : Bool) (n : Nat) (x5 : FV) (x9 : FV) (x11 : Int) : L_law01_LevelFollows_2_0 R k w (n + 1) x5 x9 x11 = onR (R N_level_Lattice_Size [.fz x5]) fun r17 => when (List.isEmpty r17.2 && allF [.fz] r17.1) (when (FV.isInt .i64 (TV.toF (List.getD r17.1 0 TV.em))) (ifB (decide (x11 < (FV.toInt (TV.toF (List.getD r17.1 0 TV.em)))))
  (onL (L_law01_LevelFollows_1_0 R k w k x5 x9 x11 0) (K_law01_LevelFollows_1 R k w n))
  (some ((.exit 0), X_law01_LevelFollows_2_0)))) := by kernel_rfl
theorem L_law01_LevelFollows_1_0_eq (R : Orc) (k : Nat) (w : Bool) (n : Nat) (x5 : FV) (x9 : FV) (x11 : Int) (x12 : Int) : L_law01_LevelFollows_1_0 R k w (n + 1) x5 x9 x11 x12 = onR (R N_level_Lattice_Size [.fz x5]) fun r18 => when (List.isEmpty r18.2 && allF [.fz] r18.1) (when (FV.isInt .i64 (TV.toF (List.getD r18.1 0 TV.em))) (ifB (decide (x12 < (FV.toInt (TV.toF (List.getD r18.1 0 TV.em)))))
  (onR (R N_level_Lattice_Leq [.fz x5, .fz (FV.int .i64 x11), .fz (FV.int .i64 x12)]) fun r19 => when (List.isEmpty r19.2 && allF [.fz] r19.1) (when (FV.isBool (TV.toF (List.getD r19.1 0 TV.em))) (onR (R N_level_Lattice_Leq [.fz x9, .fz (FV.int .i64 x11), .fz (FV.int .i64 x12)]) fun r20 => when (List.isEmpty r20.2 && allF [.fz] r20.1) (when (FV.isBool (TV.toF (List.getD r20.1 0 TV.em))) (ifB (!((FV.toBool (TV.toF (List.getD r19.1 0 TV.em))) == (FV.toBool (TV.toF (List.getD r20.1 0 TV.em)))))
   (some (.ret, X_law01_LevelFollows_1_0 false x5 x9 x11))
   (onR (R N_level_Lattice_Join [.fz x5, .fz (FV.int .i64 x11), .fz (FV.int .i64 x12)]) fun r21 => when (List.isEmpty r21.2 && allF [.fz] r21.1) (when (FV.isInt .i64 (TV.toF (List.getD r21.1 0 TV.em))) (onR (R N_level_Lattice_Join [.fz x9, .fz (FV.int .i64 x11), .fz (FV.int .i64 x12)]) fun r22 => when (List.isEmpty r22.2 && allF [.fz] r22.1) (when (FV.isInt .i64 (TV.toF (List.getD r22.1 0 TV.em))) (ifB ((FV.toInt (TV.toF (List.getD r21.1 0 TV.em))) != (FV.toInt (TV.toF (List.getD r22.1 0 TV.em))))
    (some (.ret, X_law01_LevelFollows_1_0 false x5 x9 x11))
    (onR (R N_level_Lattice_Meet [.fz x5, .fz (FV.int .i64 x11), .fz (FV.int .i64 x12)]) fun r23 => when (List.isEmpty r23.2 && allF [.fz] r23.1) (when (FV.isInt .i64 (TV.toF (List.getD r23.1 0 TV.em))) (onR (R N_level_Lattice_Meet [.fz x9, .fz (FV.int .i64 x11), .fz (FV.int .i64 x12)]) fun r24 => when (List.isEmpty r24.2 && allF [.fz] r24.1) (when (FV.isInt .i64 (TV.toF (List.getD r24.1 0 TV.em))) (ifB ((FV.toInt (TV.toF (List.getD r23.1 0 TV.em))) != (FV.toInt (TV.toF (List.getD r24.1 0 TV.em))))
     (some (.ret, X_law01_LevelFollows_1_0 false x5 x9 x11))
     (L_law01_LevelFollows_1_0 R k w n x5 x9 x11 (IntKind.wrap .i64 (x12 + 1))))))))))))))))))
  (some ((.exit 2), X_law01_LevelFollows_1_1 x5 x9 x11)))) := by kernel_rfl
theorem X_law01_LevelFollows_2_0_eq (R : Orc) (k : Nat) (w : Bool) : K_law01_LevelFollows_2 R k w (.exit 0) (X_law01_LevelFollows_2_0) = onR (R N_law01_lives []) fun r25 => when (List.isEmpty r25.2 && allF [.fz] r25.1) (when (FV.isBool (TV.toF (List.getD r25.1 0 TV.em))) (some ([.fz (FV.bool (FV.toBool (TV.toF (List.getD r25.1 0 TV.em))))], []))) := by kernel_rfl
theorem X_law01_LevelFollows_1_0_eq (R : Orc) (k : Nat) (w : Bool) (n : Nat) (x4 : Bool) (x5 : FV) (x9 : FV) (x11 : Int) : K_law01_LevelFollows_1 R k w n .ret (X_law01_LevelFollows_1_0 x4 x5 x9 x11) = some (.ret, X_law01_LevelFollows_2_1 x4) := by kernel_rfl
theorem X_law01_LevelFollows_1_1_eq (R : Orc) (k : Nat) (w : Bool) (n : Nat) (x5 : FV) (x9 : FV) (x11 : Int) : K_law01_LevelFollows_1 R k w n (.exit 2) (X_law01_LevelFollows_1_1 x5 x9 x11) = L_law01_LevelFollows_2_0 R k w n x5 x9 (IntKind.wrap .i64 (x11 + 1)) := by kernel_rfl
theorem X_law01_LevelFollows_2_1_eq (R : Orc) (k : Nat) (w : Bool) (x4 : Bool) : K_law01_LevelFollows_2 R k w .ret (X_law01_LevelFollows_2_1 x4) = some ([.fz (FV.bool x4)], []) := by kernel_rfl
/-! keyhole/keyholelaw01.LevelNames -/
def A_law01_LevelNames_j1 : ACode := .seq (.draws [⟨⟨(some 101), .mov (.t 12), none, none⟩, []⟩,
  ⟨⟨(some 102), .mov (.t 18), none, some (.int .i64)⟩, []⟩,
  ⟨⟨(some 103), .call N_level_Lattice_Text [((.t 101), .fz), ((.t 102), .fz)] [.fz], none, some .str⟩, [0, 1]⟩,
  ⟨⟨(some 104), .fadr 0 (.t 3), none, none⟩, []⟩,
  ⟨⟨(some 105), .load 1 false (.t 104), none, none⟩, [3]⟩,
  ⟨⟨(some 106), .mov (.t 18), none, some (.int .i64)⟩, []⟩,
  ⟨⟨(some 107), .iadr (.sl 1 false) (.t 105) (.t 106), none, none⟩, [4, 5]⟩,
  ⟨⟨(some 108), .load 1 false (.t 107), none, some .str⟩, [6]⟩,
  ⟨⟨(some 109), .binS .neq (.t 103) (.t 108), none, some .bool⟩, [2, 7]⟩])
 (.cond (.t 109) (.seq (.region [⟨(some 6), .mov (.c (.fz (.bool false))), none, some .bool⟩])
   (.ret))
  (.skip))
def A_law01_LevelNames_s2 : ACode := .region [⟨(some 91), .mov (.t 18), none, some (.int .i64)⟩,
 ⟨(some 92), .binI .add .i64 (.t 91) (.c (.fz (.int .i64 1))), none, some (.int .i64)⟩,
 ⟨(some 18), .mov (.t 92), none, some (.int .i64)⟩]
def A_law01_LevelNames_b1 : ACode := .seq (.seq (.region [⟨(some 86), .mov (.t 18), none, some (.int .i64)⟩,
   ⟨(some 87), .fadr 0 (.t 3), none, none⟩,
   ⟨(some 88), .load 1 false (.t 87), none, none⟩,
   ⟨(some 89), .len (.sl 1 false) (.t 88), none, some (.int .i64)⟩,
   ⟨(some 90), .binI .lss .i64 (.t 86) (.t 89), none, some .bool⟩])
  (.cond (.t 90) (.skip)
   (.exit 0)))
 (.seq (.block 1 (.seq (.seq (.region [⟨(some 93), .fadr 0 (.t 3), none, none⟩,
      ⟨(some 94), .load 1 false (.t 93), none, none⟩,
      ⟨(some 95), .mov (.t 18), none, some (.int .i64)⟩,
      ⟨(some 96), .iadr (.sl 1 false) (.t 94) (.t 95), none, none⟩,
      ⟨(some 97), .load 1 false (.t 96), none, some .str⟩,
      ⟨(some 98), .mov (.t 2), none, some .str⟩,
      ⟨(some 99), .binS .eql (.t 97) (.t 98), none, some .bool⟩])
     (.cond (.t 99) (.seq (.region [⟨(some 100), .mov (.t 18), none, some (.int .i64)⟩,
        ⟨(some 16), .mov (.t 100), none, some (.int .i64)⟩])
       (.region [⟨(some 17), .mov (.c (.fz (.bool true))), none, some .bool⟩]))
      (.skip)))
    (.trim [2, 3, 7, 12, 14, 15, 16, 17, 18] A_law01_LevelNames_j1)))
  A_law01_LevelNames_s2)
def A_law01_LevelNames_j3 : ACode := .cond (.t 126) (.seq (.region [⟨(some 127), .mov (.t 12), none, none⟩,
   ⟨(some 128), .mov (.t 7), none, some (.int .i64)⟩,
   ⟨(some 129), .call N_level_Lattice_Is [((.t 127), .fz), ((.t 128), .fz)] [.fz], none, some .bool⟩,
   ⟨(some 130), .mov (.t 129), none, some .bool⟩,
   ⟨(some 131), .call N_law01_lives [] [.fz], (some (130, true)), some .bool⟩,
   ⟨(some 132), .pick (.t 130) (.t 131) (.c (.fz (.bool false))), none, some .bool⟩,
   ⟨(some 6), .mov (.t 132), none, some .bool⟩])
  (.ret))
 (.skip)
def A_law01_LevelNames_j4 : ACode := .seq (.region [⟨(some 133), .mov (.t 12), none, none⟩,
  ⟨(some 134), .mov (.t 7), none, some (.int .i64)⟩,
  ⟨(some 135), .call N_level_Lattice_Is [((.t 133), .fz), ((.t 134), .fz)] [.fz], none, some .bool⟩,
  ⟨(some 136), .notB (.t 135), none, some .bool⟩,
  ⟨(some 137), .mov (.t 136), none, some .bool⟩,
  ⟨(some 138), .mov (.t 12), (some (137, true)), none⟩,
  ⟨(some 139), .mov (.t 7), (some (137, true)), some (.int .i64)⟩,
  ⟨(some 140), .call N_level_Lattice_Leq [((.t 138), .fz), ((.t 139), .fz), ((.c (.fz (.int .i64 0))), .fz)] [.fz], (some (137, true)), some .bool⟩,
  ⟨(some 141), .notB (.t 140), (some (137, true)), some .bool⟩,
  ⟨(some 142), .pick (.t 137) (.t 141) (.c (.fz (.bool false))), none, some .bool⟩,
  ⟨(some 143), .mov (.t 142), none, some .bool⟩,
  ⟨(some 144), .mov (.t 12), (some (143, true)), none⟩,
  ⟨(some 145), .mov (.t 7), (some (143, true)), some (.int .i64)⟩,
  ⟨(some 146), .call N_level_Lattice_Leq [((.t 144), .fz), ((.c (.fz (.int .i64 0))), .fz), ((.t 145), .fz)] [.fz], (some (143, true)), some .bool⟩,
  ⟨(some 147), .notB (.t 146), (some (143, true)), some .bool⟩,
  ⟨(some 148), .pick (.t 143) (.t 147) (.c (.fz (.bool false))), none, some .bool⟩,
  ⟨(some 149), .mov (.t 148), none, some .bool⟩,
  ⟨(some 150), .mov (.t 12), (some (149, true)), none⟩,
  ⟨(some 151), .mov (.t 7), (some (149, true)), some (.int .i64)⟩,
  ⟨(some 152), .call N_level_Lattice_Join [((.t 150), .fz), ((.t 151), .fz), ((.c (.fz (.int .i64 0))), .fz)] [.fz], (some (149, true)), some (.int .i64)⟩,
  ⟨(some 153), .mov (.t 12), (some (149, true)), none⟩,
  ⟨(some 154), .call N_level_Lattice_Top [((.t 153), .fz)] [.fz], (some (149, true)), some (.int .i64)⟩,
  ⟨(some 155), .binI .eql .i64 (.t 152) (.t 154), (some (149, true)), some .bool⟩,
  ⟨(some 156), .pick (.t 149) (.t 155) (.c (.fz (.bool false))), none, some .bool⟩,
  ⟨(some 157), .mov (.t 156), none, some .bool⟩,
  ⟨(some 158), .mov (.t 12), (some (157, true)), none⟩,
  ⟨(some 159), .mov (.t 7), (some (157, true)), some (.int .i64)⟩,
  ⟨(some 160), .call N_level_Lattice_Join [((.t 158), .fz), ((.c (.fz (.int .i64 0))), .fz), ((.t 159), .fz)] [.fz], (some (157, true)), some (.int .i64)⟩,
  ⟨(some 161), .mov (.t 12), (some (157, true)), none⟩,
  ⟨(some 162), .call N_level_Lattice_Top [((.t 161), .fz)] [.fz], (some (157, true)), some (.int .i64)⟩,
  ⟨(some 163), .binI .eql .i64 (.t 160) (.t 162), (some (157, true)), some .bool⟩,
  ⟨(some 164), .pick (.t 157) (.t 163) (.c (.fz (.bool false))), none, some .bool⟩,
  ⟨(some 165), .mov (.t 164), none, some .bool⟩,
  ⟨(some 166), .mov (.t 12), (some (165, true)), none⟩,
  ⟨(some 167), .mov (.t 7), (some (165, true)), some (.int .i64)⟩,
  ⟨(some 168), .call N_level_Lattice_Meet [((.t 166), .fz), ((.t 167), .fz), ((.c (.fz (.int .i64 0))), .fz)] [.fz], (some (165, true)), some (.int .i64)⟩,
  ⟨(some 169), .mov (.t 12), (some (165, true)), none⟩,
  ⟨(some 170), .call N_level_Lattice_Bottom [((.t 169), .fz)] [.fz], (some (165, true)), some (.int .i64)⟩,
  ⟨(some 171), .binI .eql .i64 (.t 168) (.t 170), (some (165, true)), some .bool⟩,
  ⟨(some 172), .pick (.t 165) (.t 171) (.c (.fz (.bool false))), none, some .bool⟩,
  ⟨(some 173), .mov (.t 172), none, some .bool⟩,
  ⟨(some 174), .mov (.t 12), (some (173, true)), none⟩,
  ⟨(some 175), .mov (.t 7), (some (173, true)), some (.int .i64)⟩,
  ⟨(some 176), .call N_level_Lattice_Text [((.t 174), .fz), ((.t 175), .fz)] [.fz], (some (173, true)), some .str⟩,
  ⟨(some 177), .binS .eql (.t 176) (.c (.fz (.str ⟨#[]⟩))), (some (173, true)), some .bool⟩,
  ⟨(some 178), .pick (.t 173) (.t 177) (.c (.fz (.bool false))), none, some .bool⟩,
  ⟨(some 179), .mov (.t 178), none, some .bool⟩,
  ⟨(some 180), .call N_law01_lives [] [.fz], (some (179, true)), some .bool⟩,
  ⟨(some 181), .pick (.t 179) (.t 180) (.c (.fz (.bool false))), none, some .bool⟩,
  ⟨(some 6), .mov (.t 181), none, some .bool⟩])
 (.ret)
def A_law01_LevelNames_s5 : ACode := .trim [7, 12] A_law01_LevelNames_j4
def A_law01_LevelNames_j6 : ACode := .seq (.seq (.region [⟨(some 118), .mov (.t 7), none, some (.int .i64)⟩,
   ⟨(some 119), .binI .geq .i64 (.t 118) (.c (.fz (.int .i64 0))), none, some .bool⟩,
   ⟨(some 120), .mov (.t 119), none, some .bool⟩,
   ⟨(some 121), .mov (.t 7), (some (120, true)), some (.int .i64)⟩,
   ⟨(some 122), .fadr 0 (.t 3), (some (120, true)), none⟩,
   ⟨(some 123), .load 1 false (.t 122), (some (120, true)), none⟩,
   ⟨(some 124), .len (.sl 1 false) (.t 123), (some (120, true)), some (.int .i64)⟩,
   ⟨(some 125), .binI .lss .i64 (.t 121) (.t 124), (some (120, true)), some .bool⟩,
   ⟨(some 126), .pick (.t 120) (.t 125) (.c (.fz (.bool false))), none, some .bool⟩])
  (.trim [7, 12, 126] A_law01_LevelNames_j3))
 A_law01_LevelNames_s5
def A_law01_LevelNames_s7 : ACode := .seq (.seq (.region [⟨(some 110), .mov (.t 14), none, some (.int .i64)⟩,
   ⟨(some 111), .mov (.t 16), none, some (.int .i64)⟩,
   ⟨(some 112), .binI .neq .i64 (.t 110) (.t 111), none, some .bool⟩,
   ⟨(some 113), .mov (.t 112), none, some .bool⟩,
   ⟨(some 114), .mov (.t 15), (some (113, false)), some .bool⟩,
   ⟨(some 115), .mov (.t 17), (some (113, false)), some .bool⟩,
   ⟨(some 116), .binB true (.t 114) (.t 115), (some (113, false)), some .bool⟩,
   ⟨(some 117), .pick (.t 113) (.c (.fz (.bool true))) (.t 116), none, some .bool⟩])
  (.cond (.t 117) (.seq (.region [⟨(some 6), .mov (.c (.fz (.bool false))), none, some .bool⟩])
    (.ret))
   (.skip)))
 (.trim [3, 7, 12] A_law01_LevelNames_j6)
def A_law01_LevelNames_j8 : ACode := .seq (.region [⟨(some 76), .load 3 true (.t 3), none, none⟩,
  ⟨(some 77), .call N_level_New [((.t 76), .fz)] [.fz, .fz], none, none⟩,
  ⟨(some 75), .mov (.t 77), none, none⟩,
  ⟨(some 78), .extract (.t 75) 0, none, none⟩,
  ⟨(some 79), .extract (.t 75) 1, none, some (.int .i64)⟩,
  ⟨(some 12), .mov (.t 78), none, none⟩,
  ⟨(some 13), .mov (.t 79), none, some (.int .i64)⟩])
 (.seq (.region [⟨(some 81), .mov (.t 12), none, none⟩,
   ⟨(some 82), .mov (.t 2), none, some .str⟩,
   ⟨(some 83), .call N_level_Lattice_Find [((.t 81), .fz), ((.t 82), .fz)] [.fz, .fz], none, none⟩,
   ⟨(some 80), .mov (.t 83), none, none⟩,
   ⟨(some 84), .extract (.t 80) 0, none, some (.int .i64)⟩,
   ⟨(some 85), .extract (.t 80) 1, none, some .bool⟩,
   ⟨(some 14), .mov (.t 84), none, some (.int .i64)⟩,
   ⟨(some 15), .mov (.t 85), none, some .bool⟩])
  (.seq (.region [⟨(some 16), .mov (.c (.fz (.int .i64 0))), none, some (.int .i64)⟩,
    ⟨(some 17), .mov (.c (.fz (.bool false))), none, some .bool⟩])
   (.seq (.seq (.region [⟨(some 18), .mov (.c (.fz (.int .i64 0))), none, some (.int .i64)⟩])
     (.block 0 (.loop [2, 3, 7, 12, 14, 15, 16, 17, 18] [3, 6, 7, 12, 14, 15, 16, 17] A_law01_LevelNames_b1)))
    A_law01_LevelNames_s7)))
def A_law01_LevelNames_j9 : ACode := .seq (.seq (.region [⟨(some 66), .load 3 true (.t 3), none, none⟩,
   ⟨(some 67), .call N_law01_light [((.t 66), .fz)] [.fz], none, some .bool⟩,
   ⟨(some 68), .notB (.t 67), none, some .bool⟩,
   ⟨(some 69), .mov (.t 68), none, some .bool⟩,
   ⟨(some 70), .load 3 true (.t 3), (some (69, false)), none⟩,
   ⟨(some 71), .call N_ref01_Check [((.t 70), .fz)] [.fz], (some (69, false)), some (.int .i64)⟩,
   ⟨(some 72), .binI .neq .i64 (.t 71) (.c (.fz (.int .i64 0))), (some (69, false)), some .bool⟩,
   ⟨(some 73), .pick (.t 69) (.c (.fz (.bool true))) (.t 72), none, some .bool⟩])
  (.cond (.t 73) (.seq (.region [⟨(some 74), .call N_law01_lives [] [.fz], none, some .bool⟩,
     ⟨(some 6), .mov (.t 74), none, some .bool⟩])
    (.ret))
   (.skip)))
 (.trim [2, 3, 7] A_law01_LevelNames_j8)
def A_law01_LevelNames : AFunc := ⟨3, [(.tmp 6, .fz)], .seq (.region [⟨(some 3), .box 3 true (.t 0), none, none⟩,
  ⟨(some 4), .box 2 true (.t 1), none, none⟩,
  ⟨(some 6), .mov (.c (.fz (.bool false))), none, some .bool⟩])
 (.seq (.draws [⟨⟨(some 19), .iadr (.arr 2 1 false) (.t 4) (.c (.fz (.int .i64 0))), none, none⟩, []⟩,
   ⟨⟨(some 20), .load 1 false (.t 19), none, some (.int .i64)⟩, [0]⟩,
   ⟨⟨(some 21), .iadr (.arr 2 1 false) (.t 4) (.c (.fz (.int .i64 1))), none, none⟩, []⟩,
   ⟨⟨(some 22), .load 1 false (.t 21), none, some (.int .i64)⟩, [2]⟩,
   ⟨⟨(some 7), .mov (.t 20), none, some (.int .i64)⟩, [1, 0, 1]⟩,
   ⟨⟨(some 8), .mov (.t 22), none, some (.int .i64)⟩, [3, 4, 0, 1, 2, 3, 4]⟩])
  (.seq (.region [⟨(some 9), .mov (.c (.fz (.nilp))), none, none⟩])
   (.seq (.region [⟨(some 24), .mov (.t 9), none, none⟩,
     ⟨(some 25), .mov (.t 2), none, some .str⟩,
     ⟨(some 26), .call N_level_Lattice_Find [((.t 24), .fz), ((.t 25), .fz)] [.fz, .fz], none, none⟩,
     ⟨(some 23), .mov (.t 26), none, none⟩,
     ⟨(some 27), .extract (.t 23) 0, none, some (.int .i64)⟩,
     ⟨(some 28), .extract (.t 23) 1, none, some .bool⟩,
     ⟨(some 10), .mov (.t 27), none, some (.int .i64)⟩,
     ⟨(some 11), .mov (.t 28), none, some .bool⟩])
    (.seq (.seq (.region [⟨(some 29), .mov (.t 9), none, none⟩,
       ⟨(some 30), .call N_level_Lattice_Size [((.t 29), .fz)] [.fz], none, some (.int .i64)⟩,
       ⟨(some 31), .binI .neq .i64 (.t 30) (.c (.fz (.int .i64 0))), none, some .bool⟩,
       ⟨(some 32), .mov (.t 31), none, some .bool⟩,
       ⟨(some 33), .mov (.t 9), (some (32, false)), none⟩,
       ⟨(some 34), .mov (.t 7), (some (32, false)), some (.int .i64)⟩,
       ⟨(some 35), .call N_level_Lattice_Is [((.t 33), .fz), ((.t 34), .fz)] [.fz], (some (32, false)), some .bool⟩,
       ⟨(some 36), .pick (.t 32) (.c (.fz (.bool true))) (.t 35), none, some .bool⟩,
       ⟨(some 37), .mov (.t 36), none, some .bool⟩,
       ⟨(some 38), .mov (.t 9), (some (37, false)), none⟩,
       ⟨(some 39), .mov (.t 7), (some (37, false)), some (.int .i64)⟩,
       ⟨(some 40), .mov (.t 7), (some (37, false)), some (.int .i64)⟩,
       ⟨(some 41), .call N_level_Lattice_Leq [((.t 38), .fz), ((.t 39), .fz), ((.t 40), .fz)] [.fz], (some (37, false)), some .bool⟩,
       ⟨(some 42), .pick (.t 37) (.c (.fz (.bool true))) (.t 41), none, some .bool⟩,
       ⟨(some 43), .mov (.t 42), none, some .bool⟩,
       ⟨(some 44), .mov (.t 9), (some (43, false)), none⟩,
       ⟨(some 45), .mov (.t 7), (some (43, false)), some (.int .i64)⟩,
       ⟨(some 46), .mov (.t 8), (some (43, false)), some (.int .i64)⟩,
       ⟨(some 47), .call N_level_Lattice_Join [((.t 44), .fz), ((.t 45), .fz), ((.t 46), .fz)] [.fz], (some (43, false)), some (.int .i64)⟩,
       ⟨(some 48), .binI .neq .i64 (.t 47) (.c (.fz (.int .i64 0))), (some (43, false)), some .bool⟩,
       ⟨(some 49), .pick (.t 43) (.c (.fz (.bool true))) (.t 48), none, some .bool⟩,
       ⟨(some 50), .mov (.t 49), none, some .bool⟩,
       ⟨(some 51), .mov (.t 9), (some (50, false)), none⟩,
       ⟨(some 52), .mov (.t 7), (some (50, false)), some (.int .i64)⟩,
       ⟨(some 53), .mov (.t 8), (some (50, false)), some (.int .i64)⟩,
       ⟨(some 54), .call N_level_Lattice_Meet [((.t 51), .fz), ((.t 52), .fz), ((.t 53), .fz)] [.fz], (some (50, false)), some (.int .i64)⟩,
       ⟨(some 55), .binI .neq .i64 (.t 54) (.c (.fz (.int .i64 0))), (some (50, false)), some .bool⟩,
       ⟨(some 56), .pick (.t 50) (.c (.fz (.bool true))) (.t 55), none, some .bool⟩,
       ⟨(some 57), .mov (.t 56), none, some .bool⟩,
       ⟨(some 58), .mov (.t 9), (some (57, false)), none⟩,
       ⟨(some 59), .mov (.t 7), (some (57, false)), some (.int .i64)⟩,
       ⟨(some 60), .call N_level_Lattice_Text [((.t 58), .fz), ((.t 59), .fz)] [.fz], (some (57, false)), some .str⟩,
       ⟨(some 61), .binS .neq (.t 60) (.c (.fz (.str ⟨#[]⟩))), (some (57, false)), some .bool⟩,
       ⟨(some 62), .pick (.t 57) (.c (.fz (.bool true))) (.t 61), none, some .bool⟩,
       ⟨(some 63), .mov (.t 62), none, some .bool⟩,
       ⟨(some 64), .mov (.t 11), (some (63, false)), some .bool⟩,
       ⟨(some 65), .pick (.t 63) (.c (.fz (.bool true))) (.t 64), none, some .bool⟩])
      (.cond (.t 65) (.seq (.region [⟨(some 6), .mov (.c (.fz (.bool false))), none, some .bool⟩])
        (.ret))
       (.skip)))
     (.trim [2, 3, 7] A_law01_LevelNames_j9)))))⟩
def J_law01_LevelNames_9_0 (R : Orc) (k : Nat) (w : Bool) (x2 : ByteArray) (x7 : Int) (h4096_0 : List FV) (h4096_1 : List FV) (h4096_2 : List FV) := execL R k w [] A_law01_LevelNames_j9 Ans ⟨[(2, .fz (FV.str x2)), (3, .ptr 4096 0 0), (7, .fz (FV.int .i64 x7))], [(4095, .dead), (4096, .var 3 true (.fz (FV.ag [(FV.sl h4096_0), (FV.sl h4096_1), (FV.sl h4096_2)])))]⟩ (kFin R [(.tmp 6, .fz)] [])
def J_law01_LevelNames_8_0 (R : Orc) (k : Nat) (w : Bool) (x2 : ByteArray) (x7 : Int) (h4096_0 : List FV) (h4096_1 : List FV) (h4096_2 : List FV) := execL R k w [] A_law01_LevelNames_j8 Ans ⟨[(2, .fz (FV.str x2)), (3, .ptr 4096 0 0), (7, .fz (FV.int .i64 x7))], [(4095, .dead), (4096, .var 3 true (.fz (FV.ag [(FV.sl h4096_0), (FV.sl h4096_1), (FV.sl h4096_2)])))]⟩ (kFin R [(.tmp 6, .fz)] [])
def K_law01_LevelNames_1 (R : Orc) (k : Nat) (w : Bool) : AExit → St → Option Ans := (kBlk 0 (kSeq R k w [] A_law01_LevelNames_s7 (kFin R [(.tmp 6, .fz)] [])))
def L_law01_LevelNames_1_0 (R : Orc) (k : Nat) (w : Bool) (n : Nat) (x2 : ByteArray) (x7 : Int) (x12 : FV) (x14 : Int) (x15 : Bool) (x16 : Int) (x17 : Bool) (x18 : Int) (h4096_0 : List FV) (h4096_1 : List FV) (h4096_2 : List FV) := loopL R k w [] [2, 3, 7, 12, 14, 15, 16, 17, 18] [3, 6, 7, 12, 14, 15, 16, 17] A_law01_LevelNames_b1 n ⟨[(2, .fz (FV.str x2)), (3, .ptr 4096 0 0), (7, .fz (FV.int .i64 x7)), (12, .fz x12), (14, .fz (FV.int .i64 x14)), (15, .fz (FV.bool x15)), (16, .fz (FV.int .i64 x16)), (17, .fz (FV.bool x17)), (18, .fz (FV.int .i64 x18))], [(4095, .dead), (4096, .var 3 true (.fz (FV.ag [(FV.sl h4096_0), (FV.sl h4096_1), (FV.sl h4096_2)])))]⟩
def J_law01_LevelNames_1_0 (R : Orc) (k : Nat) (w : Bool) (n : Nat) (x2 : ByteArray) (x7 : Int) (x12 : FV) (x14 : Int) (x15 : Bool) (x16 : Int) (x17 : Bool) (x18 : Int) (h4096_0 : List FV) (h4096_1 : List FV) (h4096_2 : List FV) := execL R k w [] A_law01_LevelNames_j1 (AExit × St) ⟨[(2, .fz (FV.str x2)), (3, .ptr 4096 0 0), (7, .fz (FV.int .i64 x7)), (12, .fz x12), (14, .fz (FV.int .i64 x14)), (15, .fz (FV.bool x15)), (16, .fz (FV.int .i64 x16)), (17, .fz (FV.bool x17)), (18, .fz (FV.int .i64 x18))], [(4095, .dead), (4096, .var 3 true (.fz (FV.ag [(FV.sl h4096_0), (FV.sl h4096_1), (FV.sl h4096_2)])))]⟩ (kBlk 1 (kSeq R k w [] A_law01_LevelNames_s2 (kLoop R k w [] [2, 3, 7, 12, 14, 15, 16, 17, 18] [3, 6, 7, 12, 14, 15, 16, 17] A_law01_LevelNames_b1 n)))
def X_law01_LevelNames_1_0 (x7 : Int) (x12 : FV) (x14 : Int) (x15 : Bool) (x16 : Int) (x17 : Bool) (h4096_0 : List FV) (h4096_1 : List FV) (h4096_2 : List FV) : St := ⟨[(3, .ptr 4096 0 0), (7, .fz (FV.int .i64 x7)), (12, .fz x12), (14, .fz (FV.int .i64 x14)), (15, .fz (FV.bool x15)), (16, .fz (FV.int .i64 x16)), (17, .fz (FV.bool x17))], [(4095, .dead), (4096, .var 3 true (.fz (FV.ag [(FV.sl h4096_0), (FV.sl h4096_1), (FV.sl h4096_2)])))]⟩
def X_law01_LevelNames_1_1 (x6 : Bool) (x7 : Int) (x12 : FV) (x14 : Int) (x15 : Bool) (x16 : Int) (x17 : Bool) (h4096_0 : List FV) (h4096_1 : List FV) (h4096_2 : List FV) : St := ⟨[(3, .ptr 4096 0 0), (6, .fz (FV.bool x6)), (7, .fz (FV.int .i64 x7)), (12, .fz x12), (14, .fz (FV.int .i64 x14)), (15, .fz (FV.bool x15)), (16, .fz (FV.int .i64 x16)), (17, .fz (FV.bool x17))], [(4095, .dead), (4096, .var 3 true (.fz (FV.ag [(FV.sl h4096_0), (FV.sl h4096_1), (FV.sl h4096_2)])))]⟩
def J_law01_LevelNames_6_0 (R : Orc) (k : Nat) (w : Bool) (x7 : Int) (x12 : FV) (h4096_0 : List FV) (h4096_1 : List FV) (h4096_2 : List FV) := execL R k w [] A_law01_LevelNames_j6 Ans ⟨[(3, .ptr 4096 0 0), (7, .fz (FV.int .i64 x7)), (12, .fz x12)], [(4095, .dead), (4096, .var 3 true (.fz (FV.ag [(FV.sl h4096_0), (FV.sl h4096_1), (FV.sl h4096_2)])))]⟩ (kFin R [(.tmp 6, .fz)] [])
def J_law01_LevelNames_3_0 (R : Orc) (k : Nat) (w : Bool) (x7 : Int) (x12 : FV) (x126 : Bool) := execL R k w [] A_law01_LevelNames_j3 Ans ⟨[(7, .fz (FV.int .i64 x7)), (12, .fz x12), (126, .fz (FV.bool x126))], [(4095, .dead)]⟩ (kSeq R k w [] A_law01_LevelNames_s5 (kFin R [(.tmp 6, .fz)] []))
def J_law01_LevelNames_4_0 (R : Orc) (k : Nat) (w : Bool) (x7 : Int) (x12 : FV) := execL R k w [] A_law01_LevelNames_j4 Ans ⟨[(7, .fz (FV.int .i64 x7)), (12, .fz x12)], [(4095, .dead)]⟩ (kFin R [(.tmp 6, .fz)] [])
theorem E_law01_LevelNames (R : Orc) (k : Nat) (w : Bool) (a0_0 : List FV) (a0_1 : List FV) (a0_2 : List FV) (a1_0 : Int) (a1_1 : Int) (a2 : ByteArray) : callL R k w A_law01_LevelNames [.fz (FV.ag [(FV.sl a0_0), (FV.sl a0_1), (FV.sl a0_2)]), .fz (FV.ag [(FV.int .i64 a1_0), (FV.int .i64 a1_1)]), .fz (FV.str a2)] = onR (R N_level_Lattice_Find [.fz FV.nilp, .fz (FV.str a2)]) fun r0 => when (List.isEmpty r0.2 && allF [.fz, .fz] r0.1) (when (FV.isInt .i64 (TV.toF (List.getD r0.1 0 TV.em))) (when (FV.isBool (TV.toF (List.getD r0.1 1 TV.em))) (onR (R N_level_Lattice_Size [.fz FV.nilp]) fun r1 => when (List.isEmpty r1.2 && allF [.fz] r1.1) (when (FV.isInt .i64 (TV.toF (List.getD r1.1 0 TV.em))) (ifB ((FV.toInt (TV.toF (List.getD r1.1 0 TV.em))) != 0)
  (some ([.fz (FV.bool false)], []))
  (onR (R N_level_Lattice_Is [.fz FV.nilp, .fz (FV.int .i64 a1_0)]) fun r2 => when (List.isEmpty r2.2 && allF [.fz] r2.1) (when (FV.isBool (TV.toF (List.getD r2.1 0 TV.em))) (ifB (FV.toBool (TV.toF (List.getD r2.1 0 TV.em)))
   (some ([.fz (FV.bool false)], []))
   (onR (R N_level_Lattice_Leq [.fz FV.nilp, .fz (FV.int .i64 a1_0), .fz (FV.int .i64 a1_0)]) fun r3 => when (List.isEmpty r3.2 && allF [.fz] r3.1) (when (FV.isBool (TV.toF (List.getD r3.1 0 TV.em))) (ifB (FV.toBool (TV.toF (List.getD r3.1 0 TV.em)))
    (some ([.fz (FV.bool false)], []))
    (onR (R N_level_Lattice_Join [.fz FV.nilp, .fz (FV.int .i64 a1_0), .fz (FV.int .i64 a1_1)]) fun r4 => when (List.isEmpty r4.2 && allF [.fz] r4.1) (when (FV.isInt .i64 (TV.toF (List.getD r4.1 0 TV.em))) (ifB ((FV.toInt (TV.toF (List.getD r4.1 0 TV.em))) != 0)
     (some ([.fz (FV.bool false)], []))
     (onR (R N_level_Lattice_Meet [.fz FV.nilp, .fz (FV.int .i64 a1_0), .fz (FV.int .i64 a1_1)]) fun r5 => when (List.isEmpty r5.2 && allF [.fz] r5.1) (when (FV.isInt .i64 (TV.toF (List.getD r5.1 0 TV.em))) (ifB ((FV.toInt (TV.toF (List.getD r5.1 0 TV.em))) != 0)
      (some ([.fz (FV.bool false)], []))
      (onR (R N_level_Lattice_Text [.fz FV.nilp, .fz (FV.int .i64 a1_0)]) fun r6 => when (List.isEmpty r6.2 && allF [.fz] r6.1) (when (FV.isStr (TV.toF (List.getD r6.1 0 TV.em))) (ifB (!(ByteArray.toList (FV.toStr (TV.toF (List.getD r6.1 0 TV.em))) == ByteArray.toList (⟨#[]⟩ : ByteArray)))
       (some ([.fz (FV.bool false)], []))
       (ifB (FV.toBool (TV.toF (List.getD r0.1 1 TV.em)))
        (some ([.fz (FV.bool false)], []))
        (jump w (J_law01_LevelNames_9_0 R k w a2 a1_0 a0_0 a0_1 a0_2))))))))))))))))))))))) := by kernel_rfl
theorem J_law01_LevelNames_9_0_eq (R : Orc) (k : Nat) (w : Bool) (x2 : ByteArray) (x7 : Int) (h4096_0 : List FV) (h4096_1 : List FV) (h4096_2 : List FV) : J_law01_LevelNames_9_0 R k w x2 x7 h4096_0 h4096_1 h4096_2 = onR (R N_law01_light [.fz (FV.ag [(FV.sl h4096_0), (FV.sl h4096_1), (FV.sl h4096_2)])]) fun r7 => when (List.isEmpty r7.2 && allF [.fz] r7.1) (when (FV.isBool (TV.toF (List.getD r7.1 0 TV.em))) (ifB (!(FV.toBool (TV.toF (List.getD r7.1 0 TV.em))))
  (onR (R N_law01_lives []) fun r8 => when (List.isEmpty r8.2 && allF [.fz] r8.1) (when (FV.isBool (TV.toF (List.getD r8.1 0 TV.em))) (some ([.fz (FV.bool (FV.toBool (TV.toF (List.getD r8.1 0 TV.em))))], []))))
  (onR (R N_ref01_Check [.fz (FV.ag [(FV.sl h4096_0), (FV.sl h4096_1), (FV.sl h4096_2)])]) fun r9 => when (List.isEmpty r9.2 && allF [.fz] r9.1) (when (FV.isInt .i64 (TV.toF (List.getD r9.1 0 TV.em))) (ifB ((FV.toInt (TV.toF (List.getD r9.1 0 TV.em))) != 0)
   (onR (R N_law01_lives []) fun r10 => when (List.isEmpty r10.2 && allF [.fz] r10.1) (when (FV.isBool (TV.toF (List.getD r10.1 0 TV.em))) (some ([.fz (FV.bool (FV.toBool (TV.toF (List.getD r10.1 0 TV.em))))], []))))
   (jump w (J_law01_LevelNames_8_0 R k w x2 x7 h4096_0 h4096_1 h4096_2))))))) := by kernel_rfl
theorem J_law01_LevelNames_8_0_eq (R : Orc) (k : Nat) (w : Bool) (x2 : ByteArray) (x7 : Int) (h4096_0 : List FV) (h4096_1 : List FV) (h4096_2 : List FV) : J_law01_LevelNames_8_0 R k w x2 x7 h4096_0 h4096_1 h4096_2 = onR (R N_level_New [.fz (FV.ag [(FV.sl h4096_0), (FV.sl h4096_1), (FV.sl h4096_2)])]) fun r11 => when (List.isEmpty r11.2 && allF [.fz, .fz] r11.1) (when (FV.isInt .i64 (TV.toF (List.getD r11.1 1 TV.em))) (onR (R N_level_Lattice_Find [.fz (TV.toF (List.getD r11.1 0 TV.em)), .fz (FV.str x2)]) fun r12 => when (List.isEmpty r12.2 && allF [.fz, .fz] r12.1) (when (FV.isInt .i64 (TV.toF (List.getD r12.1 0 TV.em))) (when (FV.isBool (TV.toF (List.getD r12.1 1 TV.em))) (onL (L_law01_LevelNames_1_0 R k w k x2 x7 (TV.toF (List.getD r11.1 0 TV.em)) (FV.toInt (TV.toF (List.getD r12.1 0 TV.em))) (FV.toBool (TV.toF (List.getD r12.1 1 TV.em))) 0 false 0 h4096_0 h4096_1 h4096_2) (K_law01_LevelNames_1 R k w)))))) := by kernel_rfl
theorem L_law01_LevelNames_1_0_eq (R : Orc) (k : Nat) (w : Bool) (n : Nat) (x2 : ByteArray) (x7 : Int) (x12 : FV) (x14 : Int) (x15 : Bool) (x16 : Int) (x17 : Bool) (x18 : Int) (h4096_0 : List FV) (h4096_1 : List FV) (h4096_2 : List FV) : L_law01_LevelNames_1_0 R k w (n + 1) x2 x7 x12 x14 x15 x16 x17 x18 h4096_0 h4096_1 h4096_2 = ifB (decide (x18 < (List.length h4096_0 : Int)))
  (when ((decide (0 ≤ x18)) && (decide (x18 < (List.length h4096_0 : Int)))) (when (FV.fits 1 false (List.getD h4096_0 (Int.toNat x18) FV.nilp)) (when (FV.isStr (List.getD h4096_0 (Int.toNat x18) FV.nilp)) (ifB (ByteArray.toList (FV.toStr (List.getD h4096_0 (Int.toNat x18) FV.nilp)) == ByteArray.toList x2)
   (jump w (J_law01_LevelNames_1_0 R k w n x2 x7 x12 x14 x15 x18 true x18 h4096_0 h4096_1 h4096_2))
   (jump w (J_law01_LevelNames_1_0 R k w n x2 x7 x12 x14 x15 x16 x17 x18 h4096_0 h4096_1 h4096_2))))))
  (some ((.exit 0), X_law01_LevelNames_1_0 x7 x12 x14 x15 x16 x17 h4096_0 h4096_1 h4096_2)) := by kernel_rfl
theorem J_law01_LevelNames_1_0_eq (R : Orc) (k : Nat) (w : Bool) (n : Nat) (x2 : ByteArray) (x7 : Int) (x12 : FV) (x14 : Int) (x15 : Bool) (x16 : Int) (x17 : Bool) (x18 : Int) (h4096_0 : List FV) (h4096_1 : List FV) (h4096_2 : List FV) : J_law01_LevelNames_1_0 R k w n x2 x7 x12 x14 x15 x16 x17 x18 h4096_0 h4096_1 h4096_2 = onR (R N_level_Lattice_Text [.fz x12, .fz (FV.int .i64 x18)]) fun r13 => when (List.isEmpty r13.2 && allF [.fz] r13.1) (when (FV.isStr (TV.toF (List.getD r13.1 0 TV.em))) (when ((decide (0 ≤ x18)) && (decide (x18 < (List.length h4096_0 : Int)))) (when (FV.fits 1 false (List.getD h4096_0 (Int.toNat x18) FV.nilp)) (when (FV.isStr (List.getD h4096_0 (Int.toNat x18) FV.nilp)) (ifB (!(ByteArray.toList (FV.toStr (TV.toF (List.getD r13.1 0 TV.em))) == ByteArray.toList (FV.toStr (List.getD h4096_0 (Int.toNat x18) FV.nilp))))
  (some (.ret, X_law01_LevelNames_1_1 false x7 x12 x14 x15 x16 x17 h4096_0 h4096_1 h4096_2))
  (L_law01_LevelNames_1_0 R k w n x2 x7 x12 x14 x15 x16 x17 (IntKind.wrap .i64 (x18 + 1)) h4096_0 h4096_1 h4096_2)))))) := by kernel_rfl
theorem X_law01_LevelNames_1_0_eq (R : Orc) (k : Nat) (w : Bool) (x7 : Int) (x12 : FV) (x14 : Int) (x15 : Bool) (x16 : Int) (x17 : Bool) (h4096_0 : List FV) (h4096_1 : List FV) (h4096_2 : List FV) : K_law01_LevelNames_1 R k w (.exit 0) (X_law01_LevelNames_1_0 x7 x12 x14 x15 x16 x17 h4096_0 h4096_1 h4096_2) = ifB (x14 != x16)
  (some ([.fz (FV.bool false)], []))
  (ifB (!(x15 == x17))
   (some ([.fz (FV.bool false)], []))
   (jump w (J_law01_LevelNames_6_0 R k w x7 x12 h4096_0 h4096_1 h4096_2))) := by kernel_rfl
theorem X_law01_LevelNames_1_1_eq (R : Orc) (k : Nat) (w : Bool) (x6 : Bool) (x7 : Int) (x12 : FV) (x14 : Int) (x15 : Bool) (x16 : Int) (x17 : Bool) (h4096_0 : List FV) (h4096_1 : List FV) (h4096_2 : List FV) : K_law01_LevelNames_1 R k w .ret (X_law01_LevelNames_1_1 x6 x7 x12 x14 x15 x16 x17 h4096_0 h4096_1 h4096_2) = some ([.fz (FV.bool x6)], []) := by kernel_rfl
theorem J_law01_LevelNames_6_0_eq (R : Orc) (k : Nat) (w : Bool) (x7 : Int) (x12 : FV) (h4096_0 : List FV) (h4096_1 : List FV) (h4096_2 : List FV) : J_law01_LevelNames_6_0 R k w x7 x12 h4096_0 h4096_1 h4096_2 = ifB (decide (x7 ≥ 0))
  (jump w (J_law01_LevelNames_3_0 R k w x7 x12 (decide (x7 < (List.length h4096_0 : Int)))))
  (jump w (J_law01_LevelNames_3_0 R k w x7 x12 false)) := by kernel_rfl
theorem J_law01_LevelNames_3_0_eq (R : Orc) (k : Nat) (w : Bool) (x7 : Int) (x12 : FV) (x126 : Bool) : J_law01_LevelNames_3_0 R k w x7 x12 x126 = ifB x126
  (onR (R N_level_Lattice_Is [.fz x12, .fz (FV.int .i64 x7)]) fun r14 => when (List.isEmpty r14.2 && allF [.fz] r14.1) (when (FV.isBool (TV.toF (List.getD r14.1 0 TV.em))) (ifB (FV.toBool (TV.toF (List.getD r14.1 0 TV.em)))
   (onR (R N_law01_lives []) fun r15 => when (List.isEmpty r15.2 && allF [.fz] r15.1) (when (FV.isBool (TV.toF (List.getD r15.1 0 TV.em))) (some ([.fz (FV.bool (FV.toBool (TV.toF (List.getD r15.1 0 TV.em))))], []))))
   (some ([.fz (FV.bool false)], [])))))
  (jump w (J_law01_LevelNames_4_0 R k w x7 x12)) := by kernel_rfl
theorem J_law01_LevelNames_4_0_eq (R : Orc) (k : Nat) (w : Bool) (x7 : Int) (x12 : FV) : J_law01_LevelNames_4_0 R k w x7 x12 = onR (R N_level_Lattice_Is [.fz x12, .fz (FV.int .i64 x7)]) fun r16 => when (List.isEmpty r16.2 && allF [.fz] r16.1) (when (FV.isBool (TV.toF (List.getD r16.1 0 TV.em))) (ifB (!(FV.toBool (TV.toF (List.getD r16.1 0 TV.em))))
  (onR (R N_level_Lattice_Leq [.fz x12, .fz (FV.int .i64 x7), .fz (FV.int .i64 0)]) fun r17 => when (List.isEmpty r17.2 && allF [.fz] r17.1) (when (FV.isBool (TV.toF (List.getD r17.1 0 TV.em))) (ifB (!(FV.toBool (TV.toF (List.getD r17.1 0 TV.em))))
   (onR (R N_level_Lattice_Leq [.fz x12, .fz (FV.int .i64 0), .fz (FV.int .i64 x7)]) fun r18 => when (List.isEmpty r18.2 && allF [.fz] r18.1) (when (FV.isBool (TV.toF (List.getD r18.1 0 TV.em))) (ifB (!(FV.toBool (TV.toF (List.getD r18.1 0 TV.em))))
    (onR (R N_level_Lattice_Join [.fz x12, .fz (FV.int .i64 x7), .fz (FV.int .i64 0)]) fun r19 => when (List.isEmpty r19.2 && allF [.fz] r19.1) (when (FV.isInt .i64 (TV.toF (List.getD r19.1 0 TV.em))) (onR (R N_level_Lattice_Top [.fz x12]) fun r20 => when (List.isEmpty r20.2 && allF [.fz] r20.1) (when (FV.isInt .i64 (TV.toF (List.getD r20.1 0 TV.em))) (ifB ((FV.toInt (TV.toF (List.getD r19.1 0 TV.em))) == (FV.toInt (TV.toF (List.getD r20.1 0 TV.em))))
     (onR (R N_level_Lattice_Join [.fz x12, .fz (FV.int .i64 0), .fz (FV.int .i64 x7)]) fun r21 => when (List.isEmpty r21.2 && allF [.fz] r21.1) (when (FV.isInt .i64 (TV.toF (List.getD r21.1 0 TV.em))) (onR (R N_level_Lattice_Top [.fz x12]) fun r22 => when (List.isEmpty r22.2 && allF [.fz] r22.1) (when (FV.isInt .i64 (TV.toF (List.getD r22.1 0 TV.em))) (ifB ((FV.toInt (TV.toF (List.getD r21.1 0 TV.em))) == (FV.toInt (TV.toF (List.getD r22.1 0 TV.em))))
      (onR (R N_level_Lattice_Meet [.fz x12, .fz (FV.int .i64 x7), .fz (FV.int .i64 0)]) fun r23 => when (List.isEmpty r23.2 && allF [.fz] r23.1) (when (FV.isInt .i64 (TV.toF (List.getD r23.1 0 TV.em))) (onR (R N_level_Lattice_Bottom [.fz x12]) fun r24 => when (List.isEmpty r24.2 && allF [.fz] r24.1) (when (FV.isInt .i64 (TV.toF (List.getD r24.1 0 TV.em))) (ifB ((FV.toInt (TV.toF (List.getD r23.1 0 TV.em))) == (FV.toInt (TV.toF (List.getD r24.1 0 TV.em))))
       (onR (R N_level_Lattice_Text [.fz x12, .fz (FV.int .i64 x7)]) fun r25 => when (List.isEmpty r25.2 && allF [.fz] r25.1) (when (FV.isStr (TV.toF (List.getD r25.1 0 TV.em))) (ifB (ByteArray.toList (FV.toStr (TV.toF (List.getD r25.1 0 TV.em))) == ByteArray.toList (⟨#[]⟩ : ByteArray))
        (onR (R N_law01_lives []) fun r26 => when (List.isEmpty r26.2 && allF [.fz] r26.1) (when (FV.isBool (TV.toF (List.getD r26.1 0 TV.em))) (some ([.fz (FV.bool (FV.toBool (TV.toF (List.getD r26.1 0 TV.em))))], []))))
        (some ([.fz (FV.bool false)], [])))))
       (some ([.fz (FV.bool false)], [])))))))
      (some ([.fz (FV.bool false)], [])))))))
     (some ([.fz (FV.bool false)], [])))))))
    (some ([.fz (FV.bool false)], [])))))
   (some ([.fz (FV.bool false)], [])))))
  (some ([.fz (FV.bool false)], [])))) := by kernel_rfl
/-! keyhole/keyholelaw01.light -/
def A_law01_light : AFunc := ⟨1, [(.tmp 2, .fz)], .seq (.region [⟨(some 1), .box 3 true (.t 0), none, none⟩,
  ⟨(some 2), .mov (.c (.fz (.bool false))), none, some .bool⟩])
 (.seq (.region [⟨(some 3), .fadr 0 (.t 1), none, none⟩,
   ⟨(some 4), .load 1 false (.t 3), none, none⟩,
   ⟨(some 5), .len (.sl 1 false) (.t 4), none, some (.int .i64)⟩,
   ⟨(some 6), .binI .leq .i64 (.t 5) (.c (.fz (.int .i64 20))), none, some .bool⟩,
   ⟨(some 7), .mov (.t 6), none, some .bool⟩,
   ⟨(some 8), .fadr 1 (.t 1), (some (7, true)), none⟩,
   ⟨(some 9), .load 1 false (.t 8), (some (7, true)), none⟩,
   ⟨(some 10), .len (.sl 2 true) (.t 9), (some (7, true)), some (.int .i64)⟩,
   ⟨(some 11), .binI .leq .i64 (.t 10) (.c (.fz (.int .i64 100))), (some (7, true)), some .bool⟩,
   ⟨(some 12), .pick (.t 7) (.t 11) (.c (.fz (.bool false))), none, some .bool⟩,
   ⟨(some 2), .mov (.t 12), none, some .bool⟩])
  (.ret))⟩
theorem E_law01_light (R : Orc) (k : Nat) (w : Bool) (a0_0 : List FV) (a0_1 : List FV) (a0_2 : List FV) : callL R k w A_law01_light [.fz (FV.ag [(FV.sl a0_0), (FV.sl a0_1), (FV.sl a0_2)])] = ifB (decide ((List.length a0_0 : Int) ≤ 20))
  (some ([.fz (FV.bool (decide ((List.length a0_1 : Int) ≤ 100)))], []))
  (some ([.fz (FV.bool false)], [])) := by kernel_rfl
/-! keyhole/keyholelaw01.lives -/
def A_law01_lives : AFunc := ⟨0, [(.tmp 0, .fz)], .seq (.region [⟨(some 0), .mov (.c (.fz (.bool false))), none, some .bool⟩])
 (.seq (.region [⟨(some 4), .call N_ref01_Sort [((.c (.fz (.int .i64 0))), .fz)] [.fz], none, none⟩,
   ⟨(some 5), .call N_level_New [((.t 4), .fz)] [.fz, .fz], none, none⟩,
   ⟨(some 3), .mov (.t 5), none, none⟩,
   ⟨(some 6), .extract (.t 3) 0, none, none⟩,
   ⟨(some 7), .extract (.t 3) 1, none, some (.int .i64)⟩,
   ⟨(some 1), .mov (.t 6), none, none⟩,
   ⟨(some 2), .mov (.t 7), none, some (.int .i64)⟩])
  (.seq (.region [⟨(some 8), .mov (.t 2), none, some (.int .i64)⟩,
    ⟨(some 9), .binI .eql .i64 (.t 8) (.c (.fz (.int .i64 0))), none, some .bool⟩,
    ⟨(some 10), .mov (.t 9), none, some .bool⟩,
    ⟨(some 11), .mov (.t 1), (some (10, true)), none⟩,
    ⟨(some 12), .call N_level_Lattice_Join [((.t 11), .fz), ((.c (.fz (.int .i64 0))), .fz), ((.c (.fz (.int .i64 1))), .fz)] [.fz], (some (10, true)), some (.int .i64)⟩,
    ⟨(some 13), .binI .eql .i64 (.t 12) (.c (.fz (.int .i64 1))), (some (10, true)), some .bool⟩,
    ⟨(some 14), .pick (.t 10) (.t 13) (.c (.fz (.bool false))), none, some .bool⟩,
    ⟨(some 15), .mov (.t 14), none, some .bool⟩,
    ⟨(some 16), .mov (.t 1), (some (15, true)), none⟩,
    ⟨(some 17), .call N_level_Lattice_Bottom [((.t 16), .fz)] [.fz], (some (15, true)), some (.int .i64)⟩,
    ⟨(some 18), .binI .eql .i64 (.t 17) (.c (.fz (.int .i64 0))), (some (15, true)), some .bool⟩,
    ⟨(some 19), .pick (.t 15) (.t 18) (.c (.fz (.bool false))), none, some .bool⟩,
    ⟨(some 20), .mov (.t 19), none, some .bool⟩,
    ⟨(some 21), .mov (.t 1), (some (20, true)), none⟩,
    ⟨(some 22), .call N_level_Lattice_Top [((.t 21), .fz)] [.fz], (some (20, true)), some (.int .i64)⟩,
    ⟨(some 23), .binI .eql .i64 (.t 22) (.c (.fz (.int .i64 1))), (some (20, true)), some .bool⟩,
    ⟨(some 24), .pick (.t 20) (.t 23) (.c (.fz (.bool false))), none, some .bool⟩,
    ⟨(some 25), .mov (.t 24), none, some .bool⟩,
    ⟨(some 26), .mov (.t 1), (some (25, true)), none⟩,
    ⟨(some 27), .call N_level_Lattice_Text [((.t 26), .fz), ((.c (.fz (.int .i64 1))), .fz)] [.fz], (some (25, true)), some .str⟩,
    ⟨(some 28), .binS .eql (.t 27) (.c (.fz (.str ⟨#[104, 105, 103, 104]⟩))), (some (25, true)), some .bool⟩,
    ⟨(some 29), .pick (.t 25) (.t 28) (.c (.fz (.bool false))), none, some .bool⟩,
    ⟨(some 0), .mov (.t 29), none, some .bool⟩])
   (.ret)))⟩
theorem E_law01_lives (R : Orc) (k : Nat) (w : Bool) : callL R k w A_law01_lives [] = onR (R N_ref01_Sort [.fz (FV.int .i64 0)]) fun r0 => when (List.isEmpty r0.2 && allF [.fz] r0.1) (onR (R N_level_New [.fz (TV.toF (List.getD r0.1 0 TV.em))]) fun r1 => when (List.isEmpty r1.2 && allF [.fz, .fz] r1.1) (when (FV.isInt .i64 (TV.toF (List.getD r1.1 1 TV.em))) (ifB ((FV.toInt (TV.toF (List.getD r1.1 1 TV.em))) == 0)
  (onR (R N_level_Lattice_Join [.fz (TV.toF (List.getD r1.1 0 TV.em)), .fz (FV.int .i64 0), .fz (FV.int .i64 1)]) fun r2 => when (List.isEmpty r2.2 && allF [.fz] r2.1) (when (FV.isInt .i64 (TV.toF (List.getD r2.1 0 TV.em))) (ifB ((FV.toInt (TV.toF (List.getD r2.1 0 TV.em))) == 1)
   (onR (R N_level_Lattice_Bottom [.fz (TV.toF (List.getD r1.1 0 TV.em))]) fun r3 => when (List.isEmpty r3.2 && allF [.fz] r3.1) (when (FV.isInt .i64 (TV.toF (List.getD r3.1 0 TV.em))) (ifB ((FV.toInt (TV.toF (List.getD r3.1 0 TV.em))) == 0)
    (onR (R N_level_Lattice_Top [.fz (TV.toF (List.getD r1.1 0 TV.em))]) fun r4 => when (List.isEmpty r4.2 && allF [.fz] r4.1) (when (FV.isInt .i64 (TV.toF (List.getD r4.1 0 TV.em))) (ifB ((FV.toInt (TV.toF (List.getD r4.1 0 TV.em))) == 1)
     (onR (R N_level_Lattice_Text [.fz (TV.toF (List.getD r1.1 0 TV.em)), .fz (FV.int .i64 1)]) fun r5 => when (List.isEmpty r5.2 && allF [.fz] r5.1) (when (FV.isStr (TV.toF (List.getD r5.1 0 TV.em))) (some ([.fz (FV.bool (ByteArray.toList (FV.toStr (TV.toF (List.getD r5.1 0 TV.em))) == ByteArray.toList (⟨#[104, 105, 103, 104]⟩ : ByteArray)))], []))))
     (some ([.fz (FV.bool false)], [])))))
    (some ([.fz (FV.bool false)], [])))))
   (some ([.fz (FV.bool false)], [])))))
  (some ([.fz (FV.bool false)], []))))) := by kernel_rfl
end Go.Ab
