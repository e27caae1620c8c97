-- Written by a program of the session, out of the translation. Lean checks it.
import Derived.Test.YtpgngeagdphhfaaA0
namespace Go.Ab
set_option linter.unusedVariables false
set_option maxRecDepth 100000
/-! keyhole/level.turned -/
def A_level_turned_b1 : ACode := .seq (.region [⟨(some 10), .binI .lss .i64 (.t 9) (.c (.fz (.int .i64 8))), none, some .bool⟩])
 (.seq (.cond (.t 10) (.skip)
   (.exit 2))
  (.seq (.block 3 (.seq (.region [⟨(some 11), .mov (.t 9), none, some (.int .i64)⟩,
      ⟨(some 5), .mov (.t 11), none, some (.int .i64)⟩])
     (.draws [⟨⟨(some 12), .mov (.t 5), none, some (.int .i64)⟩, []⟩,
      ⟨⟨(some 13), .mov (.t 4), none, some (.int .i64)⟩, []⟩,
      ⟨⟨(some 14), .mov (.t 4), none, some (.int .i64)⟩, []⟩,
      ⟨⟨(some 15), .mov (.t 5), none, some (.int .i64)⟩, []⟩,
      ⟨⟨(some 16), .iadr (.arr 8 8 true) (.t 1) (.t 14), none, none⟩, [2]⟩,
      ⟨⟨(some 17), .iadr (.arr 8 1 false) (.t 16) (.t 15), none, none⟩, [4, 3]⟩,
      ⟨⟨(some 18), .load 1 false (.t 17), none, some .bool⟩, [5]⟩,
      ⟨⟨(some 19), .iadr (.arr 8 8 true) (.t 3) (.t 12), none, none⟩, [0]⟩,
      ⟨⟨(some 20), .iadr (.arr 8 1 false) (.t 19) (.t 13), none, none⟩, [7, 1, 0, 1, 2, 3, 4, 5, 6]⟩,
      ⟨⟨none, .store 1 false (.t 20) (.t 18), none, none⟩, [8, 6, 0, 1, 2, 3, 4, 5, 6]⟩])))
   (.region [⟨(some 21), .binI .add .i64 (.t 9) (.c (.fz (.int .i64 1))), none, some (.int .i64)⟩,
    ⟨(some 9), .mov (.t 21), none, some (.int .i64)⟩])))
def A_level_turned_s1 : ACode := .region [⟨(some 22), .binI .add .i64 (.t 6) (.c (.fz (.int .i64 1))), none, some (.int .i64)⟩,
 ⟨(some 6), .mov (.t 22), none, some (.int .i64)⟩]
def A_level_turned_b2 : ACode := .seq (.region [⟨(some 7), .binI .lss .i64 (.t 6) (.c (.fz (.int .i64 8))), none, some .bool⟩])
 (.seq (.cond (.t 7) (.skip)
   (.exit 0))
  (.seq (.block 1 (.seq (.region [⟨(some 8), .mov (.t 6), none, some (.int .i64)⟩,
      ⟨(some 4), .mov (.t 8), none, some (.int .i64)⟩])
     (.seq (.region [⟨(some 9), .mov (.c (.fz (.int .i64 0))), none, some (.int .i64)⟩])
      (.block 2 (.loop [1, 2, 3, 4, 6, 9] [1, 2, 3, 6] A_level_turned_b1)))))
   A_level_turned_s1))
def A_level_turned_s2 : ACode := .seq (.region [⟨(some 23), .load 64 true (.t 3), none, none⟩,
  ⟨none, .store 64 true (.t 2) (.t 23), none, none⟩])
 (.ret)
def A_level_turned : AFunc := ⟨1, [(.cell 2 64 true, .fz)], .seq (.region [⟨(some 1), .box 64 true (.t 0), none, none⟩,
  ⟨(some 2), .alloc 64 true (.fz (.ag [.bool false, .bool false, .bool false, .bool false, .bool false, .bool false, .bool false, .bool false, .bool false, .bool false, .bool false, .bool false, .bool false, .bool false, .bool false, .bool false, .bool false, .bool false, .bool false, .bool false, .bool false, .bool false, .bool false, .bool false, .bool false, .bool false, .bool false, .bool false, .bool false, .bool false, .bool false, .bool false, .bool false, .bool false, .bool false, .bool false, .bool false, .bool false, .bool false, .bool false, .bool false, .bool false, .bool false, .bool false, .bool false, .bool false, .bool false, .bool false, .bool false, .bool false, .bool false, .bool false, .bool false, .bool false, .bool false, .bool false, .bool false, .bool false, .bool false, .bool false, .bool false, .bool false, .bool false, .bool false])), none, none⟩])
 (.seq (.region [⟨(some 3), .alloc 64 true (.fz (.ag [.bool false, .bool false, .bool false, .bool false, .bool false, .bool false, .bool false, .bool false, .bool false, .bool false, .bool false, .bool false, .bool false, .bool false, .bool false, .bool false, .bool false, .bool false, .bool false, .bool false, .bool false, .bool false, .bool false, .bool false, .bool false, .bool false, .bool false, .bool false, .bool false, .bool false, .bool false, .bool false, .bool false, .bool false, .bool false, .bool false, .bool false, .bool false, .bool false, .bool false, .bool false, .bool false, .bool false, .bool false, .bool false, .bool false, .bool false, .bool false, .bool false, .bool false, .bool false, .bool false, .bool false, .bool false, .bool false, .bool false, .bool false, .bool false, .bool false, .bool false, .bool false, .bool false, .bool false, .bool false])), none, none⟩])
  (.seq (.seq (.region [⟨(some 6), .mov (.c (.fz (.int .i64 0))), none, some (.int .i64)⟩])
    (.block 0 (.loop [1, 2, 3, 6] [2, 3] A_level_turned_b2)))
   A_level_turned_s2))⟩
def K_level_turned_2 (R : Orc) (k : Nat) (w : Bool) : AExit → St → Option Ans := (kBlk 0 (kSeq R k w [] A_level_turned_s2 (kFin R [(.cell 2 64 true, .fz)] [])))
def L_level_turned_2_0 (R : Orc) (k : Nat) (w : Bool) (n : Nat) (x6 : Int) (h4096 : FV) (h4097 : FV) (h4098 : FV) := loopL R k w [] [1, 2, 3, 6] [2, 3] A_level_turned_b2 n ⟨[(1, .ptr 4096 0 0), (2, .ptr 4097 0 0), (3, .ptr 4098 0 0), (6, .fz (FV.int .i64 x6))], [(4095, .dead), (4096, .var 64 true (.fz h4096)), (4097, .var 64 true (.fz h4097)), (4098, .var 64 true (.fz h4098))]⟩
def K_level_turned_1 (R : Orc) (k : Nat) (w : Bool) (n : Nat) : AExit → St → Option (AExit × St) := (kBlk 2 (kBlk 1 (kSeq R k w [] A_level_turned_s1 (kLoop R k w [] [1, 2, 3, 6] [2, 3] A_level_turned_b2 n))))
def L_level_turned_1_0 (R : Orc) (k : Nat) (w : Bool) (n : Nat) (x4 : Int) (x6 : Int) (x9 : Int) (h4096 : FV) (h4097 : FV) (h4098 : FV) := loopL R k w [] [1, 2, 3, 4, 6, 9] [1, 2, 3, 6] A_level_turned_b1 n ⟨[(1, .ptr 4096 0 0), (2, .ptr 4097 0 0), (3, .ptr 4098 0 0), (4, .fz (FV.int .i64 x4)), (6, .fz (FV.int .i64 x6)), (9, .fz (FV.int .i64 x9))], [(4095, .dead), (4096, .var 64 true (.fz h4096)), (4097, .var 64 true (.fz h4097)), (4098, .var 64 true (.fz h4098))]⟩
def X_level_turned_2_0 (h4096 : FV) (h4097 : FV) : St := ⟨[(2, .ptr 4096 0 0), (3, .ptr 4097 0 0)], [(4095, .dead), (4096, .var 64 true (.fz h4096)), (4097, .var 64 true (.fz h4097))]⟩
def X_level_turned_1_0 (x6 : Int) (h4096 : FV) (h4097 : FV) (h4098 : FV) : St := ⟨[(1, .ptr 4096 0 0), (2, .ptr 4097 0 0), (3, .ptr 4098 0 0), (6, .fz (FV.int .i64 x6))], [(4095, .dead), (4096, .var 64 true (.fz h4096)), (4097, .var 64 true (.fz h4097)), (4098, .var 64 true (.fz h4098))]⟩
theorem E_level_turned (R : Orc) (k : Nat) (w : Bool) (a0 : FV) : callL R k w A_level_turned [.fz a0] = when (FV.fits 64 true a0) (onL (L_level_turned_2_0 R k w k 0 a0 (FV.ag [(FV.bool false), (FV.bool false), (FV.bool false), (FV.bool false), (FV.bool false), (FV.bool false), (FV.bool false), (FV.bool false), (FV.bool false), (FV.bool false), (FV.bool false), (FV.bool false), (FV.bool false), (FV.bool false), (FV.bool false), (FV.bool false), (FV.bool false), (FV.bool false), (FV.bool false), (FV.bool false), (FV.bool false), (FV.bool false), (FV.bool false), (FV.bool false), (FV.bool false), (FV.bool false), (FV.bool false), (FV.bool false), (FV.bool false), (FV.bool false), (FV.bool false), (FV.bool false), (FV.bool false), (FV.bool false), (FV.bool false), (FV.bool false), (FV.bool false), (FV.bool false), (FV.bool false), (FV.bool false), (FV.bool false), (FV.bool false), (FV.bool false), (FV.bool false), (FV.bool false), (FV.bool false), (FV.bool false), (FV.bool false), (FV.bool false), (FV.bool false), (FV.bool false), (FV.bool false), (FV.bool false), (FV.bool false), (FV.bool false), (FV.bool false), (FV.bool false), (FV.bool false), (FV.bool false), (FV.bool false), (FV.bool false), (FV.bool false), (FV.bool false), (FV.bool false)]) (FV.ag [(FV.bool false), (FV.bool false), (FV.bool false), (FV.bool false), (FV.bool false), (FV.bool false), (FV.bool false), (FV.bool false), (FV.bool false), (FV.bool false), (FV.bool false), (FV.bool false), (FV.bool false), (FV.bool false), (FV.bool false), (FV.bool false), (FV.bool false), (FV.bool false), (FV.bool false), (FV.bool false), (FV.bool false), (FV.bool false), (FV.bool false), (FV.bool false), (FV.bool false), (FV.bool false), (FV.bool false), (FV.bool false), (FV.bool false), (FV.bool false), (FV.bool false), (FV.bool false), (FV.bool false), (FV.bool false), (FV.bool false), (FV.bool false), (FV.bool false), (FV.bool false), (FV.bool false), (FV.bool false), (FV.bool false), (FV.bool false), (FV.bool false), (FV.bool false), (FV.bool false), (FV.bool false), (FV.bool false), (FV.bool false), (FV.bool false), (FV.bool false), (FV.bool false), (FV.bool false), (FV.bool false), (FV.bool false), (FV.bool false), (FV.bool false), (FV.bool false), (FV.bool false), (FV.bool false), (FV.bool false), (FV.bool false), (FV.bool false), (FV.bool false), (FV.bool false)])) (K_level_turned_2 R k w)) := by kernel_rfl
theorem L_level_turned_2_0_eq (R : Orc) (k : Nat) (w : Bool) (n : Nat) (x6 : Int) (h4096 : FV) (h4097 : FV) (h4098 : FV) : L_level_turned_2_0 R k w (n + 1) x6 h4096 h4097 h4098 = ifB (decide (x6 < 8))
  (onL (L_level_turned_1_0 R k w k x6 x6 0 h4096 h4097 h4098) (K_level_turned_1 R k w n))
  (some ((.exit 0), X_level_turned_2_0 h4097 h4098)) := by kernel_rfl
theorem L_level_turned_1_0_eq (R : Orc) (k : Nat) (w : Bool) (n : Nat) (x4 : Int) (x6 : Int) (x9 : Int) (h4096 : FV) (h4097 : FV) (h4098 : FV) : L_level_turned_1_0 R k w (n + 1) x4 x6 x9 h4096 h4097 h4098 = ifB (decide (x9 < 8))
  (when (decide (0 ≤ x4) && decide (x4 < 8)) (when (decide (0 ≤ x9) && decide (x9 < 8)) (when (FV.isAg 64 h4096) (when (Nat.blt ((0 + ((Int.toNat x4) * 8)) + ((Int.toNat x9) * 1)) 64) (when (FV.isBool (FV.cell h4096 ((0 + ((Int.toNat x4) * 8)) + ((Int.toNat x9) * 1)))) (when (decide (0 ≤ x9) && decide (x9 < 8)) (when (decide (0 ≤ x4) && decide (x4 < 8)) (when ((FV.isAg 64 h4098) && true) (when (Nat.blt ((0 + ((Int.toNat x9) * 8)) + ((Int.toNat x4) * 1)) 64) (L_level_turned_1_0 R k w n x4 x6 (IntKind.wrap .i64 (x9 + 1)) h4096 h4097 (FV.ag (List.set (FV.toAg h4098) ((0 + ((Int.toNat x9) * 8)) + ((Int.toNat x4) * 1)) (FV.bool (FV.toBool (FV.cell h4096 ((0 + ((Int.toNat x4) * 8)) + ((Int.toNat x9) * 1)))))))))))))))))
  (some ((.exit 2), X_level_turned_1_0 x6 h4096 h4097 h4098)) := by kernel_rfl
theorem X_level_turned_2_0_eq (R : Orc) (k : Nat) (w : Bool) (h4096 : FV) (h4097 : FV) : K_level_turned_2 R k w (.exit 0) (X_level_turned_2_0 h4096 h4097) = when (FV.fits 64 true h4097) (some ([.fz h4097], [])) := by kernel_rfl
theorem X_level_turned_1_0_eq (R : Orc) (k : Nat) (w : Bool) (n : Nat) (x6 : Int) (h4096 : FV) (h4097 : FV) (h4098 : FV) : K_level_turned_1 R k w n (.exit 2) (X_level_turned_1_0 x6 h4096 h4097 h4098) = L_level_turned_2_0 R k w n (IntKind.wrap .i64 (x6 + 1)) h4096 h4097 h4098 := by kernel_rfl
/-! keyhole/level.over -/
def A_level_over_b1 : ACode := .seq (.region [⟨(some 32), .binI .lss .i64 (.t 31) (.t 30), none, some .bool⟩])
 (.seq (.cond (.t 32) (.skip)
   (.exit 2))
  (.seq (.block 3 (.seq (.region [⟨(some 33), .mov (.t 31), none, some (.int .i64)⟩,
      ⟨(some 11), .mov (.t 33), none, some (.int .i64)⟩])
     (.region [⟨(some 34), .mov (.t 10), none, some .bool⟩,
      ⟨(some 35), .mov (.t 34), none, some .bool⟩,
      ⟨(some 36), .mov (.t 2), (some (35, true)), some (.int .i64)⟩,
      ⟨(some 37), .mov (.t 11), (some (35, true)), some (.int .i64)⟩,
      ⟨(some 38), .iadr (.arr 8 8 true) (.t 4) (.t 36), (some (35, true)), none⟩,
      ⟨(some 39), .iadr (.arr 8 1 false) (.t 38) (.t 37), (some (35, true)), none⟩,
      ⟨(some 40), .load 1 false (.t 39), (some (35, true)), some .bool⟩,
      ⟨(some 41), .notB (.t 40), (some (35, true)), some .bool⟩,
      ⟨(some 42), .mov (.t 41), (some (35, true)), some .bool⟩,
      ⟨(some 43), .mov (.t 3), (some (42, false)), some (.int .i64)⟩,
      ⟨(some 44), .mov (.t 11), (some (42, false)), some (.int .i64)⟩,
      ⟨(some 45), .iadr (.arr 8 8 true) (.t 4) (.t 43), (some (42, false)), none⟩,
      ⟨(some 46), .iadr (.arr 8 1 false) (.t 45) (.t 44), (some (42, false)), none⟩,
      ⟨(some 47), .load 1 false (.t 46), (some (42, false)), some .bool⟩,
      ⟨(some 48), .notB (.t 47), (some (42, false)), some .bool⟩,
      ⟨(some 49), .pick (.t 42) (.c (.fz (.bool true))) (.t 48), (some (35, true)), some .bool⟩,
      ⟨(some 50), .mov (.t 49), (some (35, true)), some .bool⟩,
      ⟨(some 51), .mov (.t 9), (some (50, false)), some (.int .i64)⟩,
      ⟨(some 52), .mov (.t 11), (some (50, false)), some (.int .i64)⟩,
      ⟨(some 53), .iadr (.arr 8 8 true) (.t 4) (.t 51), (some (50, false)), none⟩,
      ⟨(some 54), .iadr (.arr 8 1 false) (.t 53) (.t 52), (some (50, false)), none⟩,
      ⟨(some 55), .load 1 false (.t 54), (some (50, false)), some .bool⟩,
      ⟨(some 56), .pick (.t 50) (.c (.fz (.bool true))) (.t 55), (some (35, true)), some .bool⟩,
      ⟨(some 57), .pick (.t 35) (.t 56) (.c (.fz (.bool false))), none, some .bool⟩,
      ⟨(some 10), .mov (.t 57), none, some .bool⟩])))
   (.region [⟨(some 58), .binI .add .i64 (.t 31) (.c (.fz (.int .i64 1))), none, some (.int .i64)⟩,
    ⟨(some 31), .mov (.t 58), none, some (.int .i64)⟩])))
def A_level_over_s1 : ACode := .seq (.region [⟨(some 59), .mov (.t 10), none, some .bool⟩])
 (.cond (.t 59) (.seq (.region [⟨(some 60), .mov (.t 9), none, some (.int .i64)⟩,
    ⟨(some 8), .mov (.t 60), none, some (.int .i64)⟩])
   (.ret))
  (.skip))
def A_level_over_j2 : ACode := .seq (.region [⟨(some 10), .mov (.c (.fz (.bool true))), none, some .bool⟩])
 (.seq (.seq (.region [⟨(some 30), .mov (.t 1), none, some (.int .i64)⟩,
    ⟨(some 31), .mov (.c (.fz (.int .i64 0))), none, some (.int .i64)⟩])
   (.block 2 (.loop [1, 2, 3, 4, 9, 10, 12, 13, 30, 31] [1, 2, 3, 4, 9, 10, 12, 13] A_level_over_b1)))
  A_level_over_s1)
def A_level_over_s3 : ACode := .region [⟨(some 61), .binI .add .i64 (.t 13) (.c (.fz (.int .i64 1))), none, some (.int .i64)⟩,
 ⟨(some 13), .mov (.t 61), none, some (.int .i64)⟩]
def A_level_over_b2 : ACode := .seq (.region [⟨(some 14), .binI .lss .i64 (.t 13) (.t 12), none, some .bool⟩])
 (.seq (.cond (.t 14) (.skip)
   (.exit 0))
  (.seq (.block 1 (.seq (.region [⟨(some 15), .mov (.t 13), none, some (.int .i64)⟩,
      ⟨(some 9), .mov (.t 15), none, some (.int .i64)⟩])
     (.seq (.seq (.region [⟨(some 16), .mov (.t 2), none, some (.int .i64)⟩,
        ⟨(some 17), .mov (.t 9), none, some (.int .i64)⟩,
        ⟨(some 18), .iadr (.arr 8 8 true) (.t 4) (.t 16), none, none⟩,
        ⟨(some 19), .iadr (.arr 8 1 false) (.t 18) (.t 17), none, none⟩,
        ⟨(some 20), .load 1 false (.t 19), none, some .bool⟩,
        ⟨(some 21), .notB (.t 20), none, some .bool⟩,
        ⟨(some 22), .mov (.t 21), none, some .bool⟩,
        ⟨(some 23), .mov (.t 3), (some (22, false)), some (.int .i64)⟩,
        ⟨(some 24), .mov (.t 9), (some (22, false)), some (.int .i64)⟩,
        ⟨(some 25), .iadr (.arr 8 8 true) (.t 4) (.t 23), (some (22, false)), none⟩,
        ⟨(some 26), .iadr (.arr 8 1 false) (.t 25) (.t 24), (some (22, false)), none⟩,
        ⟨(some 27), .load 1 false (.t 26), (some (22, false)), some .bool⟩,
        ⟨(some 28), .notB (.t 27), (some (22, false)), some .bool⟩,
        ⟨(some 29), .pick (.t 22) (.c (.fz (.bool true))) (.t 28), none, some .bool⟩])
       (.cond (.t 29) (.exit 1)
        (.skip)))
      (.trim [1, 2, 3, 4, 9, 12, 13] A_level_over_j2))))
   A_level_over_s3))
def A_level_over_s4 : ACode := .seq (.region [⟨(some 8), .mov (.c (.fz (.int .i64 (-1)))), none, some (.int .i64)⟩])
 (.ret)
def A_level_over : AFunc := ⟨4, [(.tmp 8, .fz)], .seq (.region [⟨(some 4), .box 64 true (.t 0), none, none⟩,
  ⟨(some 8), .mov (.c (.fz (.int .i64 0))), none, some (.int .i64)⟩])
 (.seq (.seq (.region [⟨(some 12), .mov (.t 1), none, some (.int .i64)⟩,
    ⟨(some 13), .mov (.c (.fz (.int .i64 0))), none, some (.int .i64)⟩])
   (.block 0 (.loop [1, 2, 3, 4, 12, 13] [8] A_level_over_b2)))
  A_level_over_s4)⟩
def K_level_over_2 (R : Orc) (k : Nat) (w : Bool) : AExit → St → Option Ans := (kBlk 0 (kSeq R k w [] A_level_over_s4 (kFin R [(.tmp 8, .fz)] [])))
def L_level_over_2_0 (R : Orc) (k : Nat) (w : Bool) (n : Nat) (x1 : Int) (x2 : Int) (x3 : Int) (x12 : Int) (x13 : Int) (h4096 : FV) := loopL R k w [] [1, 2, 3, 4, 12, 13] [8] A_level_over_b2 n ⟨[(1, .fz (FV.int .i64 x1)), (2, .fz (FV.int .i64 x2)), (3, .fz (FV.int .i64 x3)), (4, .ptr 4096 0 0), (12, .fz (FV.int .i64 x12)), (13, .fz (FV.int .i64 x13))], [(4095, .dead), (4096, .var 64 true (.fz h4096))]⟩
def J_level_over_2_0 (R : Orc) (k : Nat) (w : Bool) (n : Nat) (x1 : Int) (x2 : Int) (x3 : Int) (x9 : Int) (x12 : Int) (x13 : Int) (h4096 : FV) := execL R k w [] A_level_over_j2 (AExit × St) ⟨[(1, .fz (FV.int .i64 x1)), (2, .fz (FV.int .i64 x2)), (3, .fz (FV.int .i64 x3)), (4, .ptr 4096 0 0), (9, .fz (FV.int .i64 x9)), (12, .fz (FV.int .i64 x12)), (13, .fz (FV.int .i64 x13))], [(4095, .dead), (4096, .var 64 true (.fz h4096))]⟩ (kBlk 1 (kSeq R k w [] A_level_over_s3 (kLoop R k w [] [1, 2, 3, 4, 12, 13] [8] A_level_over_b2 n)))
def X_level_over_2_0 : St := ⟨[], [(4095, .dead)]⟩
def K_level_over_1 (R : Orc) (k : Nat) (w : Bool) (n : Nat) : AExit → St → Option (AExit × St) := (kBlk 2 (kSeq R k w [] A_level_over_s1 (kBlk 1 (kSeq R k w [] A_level_over_s3 (kLoop R k w [] [1, 2, 3, 4, 12, 13] [8] A_level_over_b2 n)))))
def L_level_over_1_0 (R : Orc) (k : Nat) (w : Bool) (n : Nat) (x1 : Int) (x2 : Int) (x3 : Int) (x9 : Int) (x10 : Bool) (x12 : Int) (x13 : Int) (x30 : Int) (x31 : Int) (h4096 : FV) := loopL R k w [] [1, 2, 3, 4, 9, 10, 12, 13, 30, 31] [1, 2, 3, 4, 9, 10, 12, 13] A_level_over_b1 n ⟨[(1, .fz (FV.int .i64 x1)), (2, .fz (FV.int .i64 x2)), (3, .fz (FV.int .i64 x3)), (4, .ptr 4096 0 0), (9, .fz (FV.int .i64 x9)), (10, .fz (FV.bool x10)), (12, .fz (FV.int .i64 x12)), (13, .fz (FV.int .i64 x13)), (30, .fz (FV.int .i64 x30)), (31, .fz (FV.int .i64 x31))], [(4095, .dead), (4096, .var 64 true (.fz h4096))]⟩
def X_level_over_1_0 (x1 : Int) (x2 : Int) (x3 : Int) (x9 : Int) (x10 : Bool) (x12 : Int) (x13 : Int) (h4096 : FV) : St := ⟨[(1, .fz (FV.int .i64 x1)), (2, .fz (FV.int .i64 x2)), (3, .fz (FV.int .i64 x3)), (4, .ptr 4096 0 0), (9, .fz (FV.int .i64 x9)), (10, .fz (FV.bool x10)), (12, .fz (FV.int .i64 x12)), (13, .fz (FV.int .i64 x13))], [(4095, .dead), (4096, .var 64 true (.fz h4096))]⟩
def X_level_over_2_1 (x8 : Int) : St := ⟨[(8, .fz (FV.int .i64 x8))], [(4095, .dead)]⟩
theorem E_level_over (R : Orc) (k : Nat) (w : Bool) (a0 : FV) (a1 : Int) (a2 : Int) (a3 : Int) : callL R k w A_level_over [.fz a0, .fz (FV.int .i64 a1), .fz (FV.int .i64 a2), .fz (FV.int .i64 a3)] = when (FV.fits 64 true a0) (onL (L_level_over_2_0 R k w k a1 a2 a3 a1 0 a0) (K_level_over_2 R k w)) := by kernel_rfl
theorem L_level_over_2_0_eq (R : Orc) (k : Nat) (w : Bool) (n : Nat) (x1 : Int) (x2 : Int) (x3 : Int) (x12 : Int) (x13 : Int) (h4096 : FV) : L_level_over_2_0 R k w (n + 1) x1 x2 x3 x12 x13 h4096 = ifB (decide (x13 < x12))
  (when (decide (0 ≤ x2) && decide (x2 < 8)) (when (decide (0 ≤ x13) && decide (x13 < 8)) (when (FV.isAg 64 h4096) (when (Nat.blt ((0 + ((Int.toNat x2) * 8)) + ((Int.toNat x13) * 1)) 64) (when (FV.isBool (FV.cell h4096 ((0 + ((Int.toNat x2) * 8)) + ((Int.toNat x13) * 1)))) (ifB (!(FV.toBool (FV.cell h4096 ((0 + ((Int.toNat x2) * 8)) + ((Int.toNat x13) * 1)))))
   (L_level_over_2_0 R k w n x1 x2 x3 x12 (IntKind.wrap .i64 (x13 + 1)) h4096)
   (when (decide (0 ≤ x3) && decide (x3 < 8)) (when (decide (0 ≤ x13) && decide (x13 < 8)) (when (FV.isAg 64 h4096) (when (Nat.blt ((0 + ((Int.toNat x3) * 8)) + ((Int.toNat x13) * 1)) 64) (when (FV.isBool (FV.cell h4096 ((0 + ((Int.toNat x3) * 8)) + ((Int.toNat x13) * 1)))) (ifB (!(FV.toBool (FV.cell h4096 ((0 + ((Int.toNat x3) * 8)) + ((Int.toNat x13) * 1)))))
    (L_level_over_2_0 R k w n x1 x2 x3 x12 (IntKind.wrap .i64 (x13 + 1)) h4096)
    (jump w (J_level_over_2_0 R k w n x1 x2 x3 x13 x12 x13 h4096))))))))))))))
  (some ((.exit 0), X_level_over_2_0)) := by kernel_rfl
theorem J_level_over_2_0_eq (R : Orc) (k : Nat) (w : Bool) (n : Nat) (x1 : Int) (x2 : Int) (x3 : Int) (x9 : Int) (x12 : Int) (x13 : Int) (h4096 : FV) : J_level_over_2_0 R k w n x1 x2 x3 x9 x12 x13 h4096 = onL (L_level_over_1_0 R k w k x1 x2 x3 x9 true x12 x13 x1 0 h4096) (K_level_over_1 R k w n) := by kernel_rfl
theorem X_level_over_2_0_eq (R : Orc) (k : Nat) (w : Bool) : K_level_over_2 R k w (.exit 0) (X_level_over_2_0) = some ([.fz (FV.int .i64 (-1))], []) := by kernel_rfl
theorem L_level_over_1_0_eq (R : Orc) (k : Nat) (w : Bool) (n : Nat) (x1 : Int) (x2 : Int) (x3 : Int) (x9 : Int) (x10 : Bool) (x12 : Int) (x13 : Int) (x30 : Int) (x31 : Int) (h4096 : FV) : L_level_over_1_0 R k w (n + 1) x1 x2 x3 x9 x10 x12 x13 x30 x31 h4096 = ifB (decide (x31 < x30))
  (ifB x10
   (when (decide (0 ≤ x2) && decide (x2 < 8)) (when (decide (0 ≤ x31) && decide (x31 < 8)) (when (FV.isAg 64 h4096) (when (Nat.blt ((0 + ((Int.toNat x2) * 8)) + ((Int.toNat x31) * 1)) 64) (when (FV.isBool (FV.cell h4096 ((0 + ((Int.toNat x2) * 8)) + ((Int.toNat x31) * 1)))) (ifB (!(FV.toBool (FV.cell h4096 ((0 + ((Int.toNat x2) * 8)) + ((Int.toNat x31) * 1)))))
    (L_level_over_1_0 R k w n x1 x2 x3 x9 true x12 x13 x30 (IntKind.wrap .i64 (x31 + 1)) h4096)
    (when (decide (0 ≤ x3) && decide (x3 < 8)) (when (decide (0 ≤ x31) && decide (x31 < 8)) (when (FV.isAg 64 h4096) (when (Nat.blt ((0 + ((Int.toNat x3) * 8)) + ((Int.toNat x31) * 1)) 64) (when (FV.isBool (FV.cell h4096 ((0 + ((Int.toNat x3) * 8)) + ((Int.toNat x31) * 1)))) (ifB (!(FV.toBool (FV.cell h4096 ((0 + ((Int.toNat x3) * 8)) + ((Int.toNat x31) * 1)))))
     (L_level_over_1_0 R k w n x1 x2 x3 x9 true x12 x13 x30 (IntKind.wrap .i64 (x31 + 1)) h4096)
     (when (decide (0 ≤ x9) && decide (x9 < 8)) (when (decide (0 ≤ x31) && decide (x31 < 8)) (when (FV.isAg 64 h4096) (when (Nat.blt ((0 + ((Int.toNat x9) * 8)) + ((Int.toNat x31) * 1)) 64) (when (FV.isBool (FV.cell h4096 ((0 + ((Int.toNat x9) * 8)) + ((Int.toNat x31) * 1)))) (L_level_over_1_0 R k w n x1 x2 x3 x9 (FV.toBool (FV.cell h4096 ((0 + ((Int.toNat x9) * 8)) + ((Int.toNat x31) * 1)))) x12 x13 x30 (IntKind.wrap .i64 (x31 + 1)) h4096))))))))))))))))))
   (L_level_over_1_0 R k w n x1 x2 x3 x9 false x12 x13 x30 (IntKind.wrap .i64 (x31 + 1)) h4096))
  (some ((.exit 2), X_level_over_1_0 x1 x2 x3 x9 x10 x12 x13 h4096)) := by kernel_rfl
theorem X_level_over_1_0_eq (R : Orc) (k : Nat) (w : Bool) (n : Nat) (x1 : Int) (x2 : Int) (x3 : Int) (x9 : Int) (x10 : Bool) (x12 : Int) (x13 : Int) (h4096 : FV) : K_level_over_1 R k w n (.exit 2) (X_level_over_1_0 x1 x2 x3 x9 x10 x12 x13 h4096) = ifB x10
  (some (.ret, X_level_over_2_1 x9))
  (L_level_over_2_0 R k w n x1 x2 x3 x12 (IntKind.wrap .i64 (x13 + 1)) h4096) := by kernel_rfl
theorem X_level_over_2_1_eq (R : Orc) (k : Nat) (w : Bool) (x8 : Int) : K_level_over_2 R k w .ret (X_level_over_2_1 x8) = some ([.fz (FV.int .i64 x8)], []) := by kernel_rfl
end Go.Ab
