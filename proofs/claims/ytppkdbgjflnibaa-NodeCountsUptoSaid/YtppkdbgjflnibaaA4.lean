-- Written by a program of the session, out of the translation. Lean checks it.
import Derived.Test.YtppkdbgjflnibaaA0
namespace Go.Ab
set_option linter.unusedVariables false
set_option maxRecDepth 100000
/-! keyhole/level.twisted -/
def A_level_twisted_b1 : ACode := .seq (.region [⟨(some 13), .binI .lss .i64 (.t 12) (.t 11), none, some .bool⟩])
 (.seq (.cond (.t 13) (.skip)
   (.exit 2))
  (.seq (.block 3 (.seq (.region [⟨(some 14), .mov (.t 12), none, some (.int .i64)⟩,
      ⟨(some 6), .mov (.t 14), none, some (.int .i64)⟩])
     (.seq (.region [⟨(some 15), .mov (.t 5), none, some (.int .i64)⟩,
       ⟨(some 16), .mov (.t 6), none, some (.int .i64)⟩,
       ⟨(some 17), .iadr (.arr 8 8 true) (.t 2) (.t 15), none, none⟩,
       ⟨(some 18), .iadr (.arr 8 1 false) (.t 17) (.t 16), none, none⟩,
       ⟨(some 19), .load 1 false (.t 18), none, some .bool⟩,
       ⟨(some 20), .mov (.t 19), none, some .bool⟩,
       ⟨(some 21), .mov (.t 6), (some (20, true)), some (.int .i64)⟩,
       ⟨(some 22), .mov (.t 5), (some (20, true)), some (.int .i64)⟩,
       ⟨(some 23), .iadr (.arr 8 8 true) (.t 2) (.t 21), (some (20, true)), none⟩,
       ⟨(some 24), .iadr (.arr 8 1 false) (.t 23) (.t 22), (some (20, true)), none⟩,
       ⟨(some 25), .load 1 false (.t 24), (some (20, true)), some .bool⟩,
       ⟨(some 26), .pick (.t 20) (.t 25) (.c (.fz (.bool false))), none, some .bool⟩])
      (.cond (.t 26) (.seq (.region [⟨(some 4), .mov (.c (.fz (.bool true))), none, some .bool⟩])
        (.ret))
       (.skip)))))
   (.region [⟨(some 27), .binI .add .i64 (.t 12) (.c (.fz (.int .i64 1))), none, some (.int .i64)⟩,
    ⟨(some 12), .mov (.t 27), none, some (.int .i64)⟩])))
def A_level_twisted_s1 : ACode := .region [⟨(some 28), .binI .add .i64 (.t 8) (.c (.fz (.int .i64 1))), none, some (.int .i64)⟩,
 ⟨(some 8), .mov (.t 28), none, some (.int .i64)⟩]
def A_level_twisted_b2 : ACode := .seq (.region [⟨(some 9), .binI .lss .i64 (.t 8) (.t 7), none, some .bool⟩])
 (.seq (.cond (.t 9) (.skip)
   (.exit 0))
  (.seq (.block 1 (.seq (.region [⟨(some 10), .mov (.t 8), none, some (.int .i64)⟩,
      ⟨(some 5), .mov (.t 10), none, some (.int .i64)⟩])
     (.seq (.region [⟨(some 11), .mov (.t 5), none, some (.int .i64)⟩,
       ⟨(some 12), .mov (.c (.fz (.int .i64 0))), none, some (.int .i64)⟩])
      (.block 2 (.loop [2, 5, 7, 8, 11, 12] [2, 4, 7, 8] A_level_twisted_b1)))))
   A_level_twisted_s1))
def A_level_twisted_s2 : ACode := .seq (.region [⟨(some 4), .mov (.c (.fz (.bool false))), none, some .bool⟩])
 (.ret)
def A_level_twisted : AFunc := ⟨2, [(.tmp 4, .fz)], .seq (.region [⟨(some 2), .box 64 true (.t 0), none, none⟩,
  ⟨(some 4), .mov (.c (.fz (.bool false))), none, some .bool⟩])
 (.seq (.seq (.region [⟨(some 7), .mov (.t 1), none, some (.int .i64)⟩,
    ⟨(some 8), .mov (.c (.fz (.int .i64 0))), none, some (.int .i64)⟩])
   (.block 0 (.loop [2, 7, 8] [4] A_level_twisted_b2)))
  A_level_twisted_s2)⟩
def K_level_twisted_2 (R : Orc) (k : Nat) (w : Bool) : AExit → St → Option Ans := (kBlk 0 (kSeq R k w [] A_level_twisted_s2 (kFin R [(.tmp 4, .fz)] [])))
def L_level_twisted_2_0 (R : Orc) (k : Nat) (w : Bool) (n : Nat) (x7 : Int) (x8 : Int) (h4096 : FV) := loopL R k w [] [2, 7, 8] [4] A_level_twisted_b2 n ⟨[(2, .ptr 4096 0 0), (7, .fz (FV.int .i64 x7)), (8, .fz (FV.int .i64 x8))], [(4095, .dead), (4096, .var 64 true (.fz h4096))]⟩
def K_level_twisted_1 (R : Orc) (k : Nat) (w : Bool) (n : Nat) : AExit → St → Option (AExit × St) := (kBlk 2 (kBlk 1 (kSeq R k w [] A_level_twisted_s1 (kLoop R k w [] [2, 7, 8] [4] A_level_twisted_b2 n))))
def L_level_twisted_1_0 (R : Orc) (k : Nat) (w : Bool) (n : Nat) (x5 : Int) (x7 : Int) (x8 : Int) (x11 : Int) (x12 : Int) (h4096 : FV) := loopL R k w [] [2, 5, 7, 8, 11, 12] [2, 4, 7, 8] A_level_twisted_b1 n ⟨[(2, .ptr 4096 0 0), (5, .fz (FV.int .i64 x5)), (7, .fz (FV.int .i64 x7)), (8, .fz (FV.int .i64 x8)), (11, .fz (FV.int .i64 x11)), (12, .fz (FV.int .i64 x12))], [(4095, .dead), (4096, .var 64 true (.fz h4096))]⟩
def X_level_twisted_2_0 : St := ⟨[], [(4095, .dead)]⟩
def X_level_twisted_1_0 (x4 : Bool) (x7 : Int) (x8 : Int) (h4096 : FV) : St := ⟨[(2, .ptr 4096 0 0), (4, .fz (FV.bool x4)), (7, .fz (FV.int .i64 x7)), (8, .fz (FV.int .i64 x8))], [(4095, .dead), (4096, .var 64 true (.fz h4096))]⟩
def X_level_twisted_1_1 (x7 : Int) (x8 : Int) (h4096 : FV) : St := ⟨[(2, .ptr 4096 0 0), (7, .fz (FV.int .i64 x7)), (8, .fz (FV.int .i64 x8))], [(4095, .dead), (4096, .var 64 true (.fz h4096))]⟩
def X_level_twisted_2_1 (x4 : Bool) : St := ⟨[(4, .fz (FV.bool x4))], [(4095, .dead)]⟩
theorem E_level_twisted (R : Orc) (k : Nat) (w : Bool) (a0 : FV) (a1 : Int) : callL R k w A_level_twisted [.fz a0, .fz (FV.int .i64 a1)] = when (FV.fits 64 true a0) (onL (L_level_twisted_2_0 R k w k a1 0 a0) (K_level_twisted_2 R k w)) := by kernel_rfl
theorem L_level_twisted_2_0_eq (R : Orc) (k : Nat) (w : Bool) (n : Nat) (x7 : Int) (x8 : Int) (h4096 : FV) : L_level_twisted_2_0 R k w (n + 1) x7 x8 h4096 = ifB (decide (x8 < x7))
  (onL (L_level_twisted_1_0 R k w k x8 x7 x8 x8 0 h4096) (K_level_twisted_1 R k w n))
  (some ((.exit 0), X_level_twisted_2_0)) := by kernel_rfl
theorem L_level_twisted_1_0_eq (R : Orc) (k : Nat) (w : Bool) (n : Nat) (x5 : Int) (x7 : Int) (x8 : Int) (x11 : Int) (x12 : Int) (h4096 : FV) : L_level_twisted_1_0 R k w (n + 1) x5 x7 x8 x11 x12 h4096 = ifB (decide (x12 < x11))
  (when (decide (0 ≤ x5) && decide (x5 < 8)) (when (decide (0 ≤ x12) && decide (x12 < 8)) (when (FV.isAg 64 h4096) (when (Nat.blt ((0 + ((Int.toNat x5) * 8)) + ((Int.toNat x12) * 1)) 64) (when (FV.isBool (FV.cell h4096 ((0 + ((Int.toNat x5) * 8)) + ((Int.toNat x12) * 1)))) (ifB (FV.toBool (FV.cell h4096 ((0 + ((Int.toNat x5) * 8)) + ((Int.toNat x12) * 1))))
   (when (decide (0 ≤ x12) && decide (x12 < 8)) (when (decide (0 ≤ x5) && decide (x5 < 8)) (when (FV.isAg 64 h4096) (when (Nat.blt ((0 + ((Int.toNat x12) * 8)) + ((Int.toNat x5) * 1)) 64) (when (FV.isBool (FV.cell h4096 ((0 + ((Int.toNat x12) * 8)) + ((Int.toNat x5) * 1)))) (ifB (FV.toBool (FV.cell h4096 ((0 + ((Int.toNat x12) * 8)) + ((Int.toNat x5) * 1))))
    (some (.ret, X_level_twisted_1_0 true x7 x8 h4096))
    (L_level_twisted_1_0 R k w n x5 x7 x8 x11 (IntKind.wrap .i64 (x12 + 1)) h4096)))))))
   (L_level_twisted_1_0 R k w n x5 x7 x8 x11 (IntKind.wrap .i64 (x12 + 1)) h4096)))))))
  (some ((.exit 2), X_level_twisted_1_1 x7 x8 h4096)) := by kernel_rfl
theorem X_level_twisted_2_0_eq (R : Orc) (k : Nat) (w : Bool) : K_level_twisted_2 R k w (.exit 0) (X_level_twisted_2_0) = some ([.fz (FV.bool false)], []) := by kernel_rfl
theorem X_level_twisted_1_0_eq (R : Orc) (k : Nat) (w : Bool) (n : Nat) (x4 : Bool) (x7 : Int) (x8 : Int) (h4096 : FV) : K_level_twisted_1 R k w n .ret (X_level_twisted_1_0 x4 x7 x8 h4096) = some (.ret, X_level_twisted_2_1 x4) := by kernel_rfl
theorem X_level_twisted_1_1_eq (R : Orc) (k : Nat) (w : Bool) (n : Nat) (x7 : Int) (x8 : Int) (h4096 : FV) : K_level_twisted_1 R k w n (.exit 2) (X_level_twisted_1_1 x7 x8 h4096) = L_level_twisted_2_0 R k w n x7 (IntKind.wrap .i64 (x8 + 1)) h4096 := by kernel_rfl
theorem X_level_twisted_2_1_eq (R : Orc) (k : Nat) (w : Bool) (x4 : Bool) : K_level_twisted_2 R k w .ret (X_level_twisted_2_1 x4) = some ([.fz (FV.bool x4)], []) := by kernel_rfl
/-! (*keyhole/level.Lattice).fill -/
def A_level_Lattice_fill_b1 : ACode := .seq (.region [⟨(some 20), .binI .lss .i64 (.t 19) (.t 18), none, some .bool⟩])
 (.seq (.cond (.t 20) (.skip)
   (.exit 2))
  (.seq (.block 3 (.seq (.region [⟨(some 21), .mov (.t 19), none, some (.int .i64)⟩,
      ⟨(some 7), .mov (.t 21), none, some (.int .i64)⟩])
     (.seq (.draws [⟨⟨(some 22), .mov (.t 0), none, none⟩, []⟩,
       ⟨⟨(some 23), .mov (.t 6), none, some (.int .i64)⟩, []⟩,
       ⟨⟨(some 24), .mov (.t 7), none, some (.int .i64)⟩, []⟩,
       ⟨⟨(some 25), .mov (.t 0), none, none⟩, []⟩,
       ⟨⟨(some 26), .nilck (.t 25), none, none⟩, [3]⟩,
       ⟨⟨(some 27), .fadr 1 (.t 26), none, none⟩, [4]⟩,
       ⟨⟨(some 28), .load 64 true (.t 27), none, none⟩, [5]⟩,
       ⟨⟨(some 29), .mov (.t 1), none, some (.int .i64)⟩, []⟩,
       ⟨⟨(some 30), .mov (.t 6), none, some (.int .i64)⟩, []⟩,
       ⟨⟨(some 31), .mov (.t 7), none, some (.int .i64)⟩, []⟩,
       ⟨⟨(some 32), .call N_level_over [((.t 28), .fz), ((.t 29), .fz), ((.t 30), .fz), ((.t 31), .fz)] [.fz], none, some (.int .i64)⟩, [6, 7, 8, 9]⟩,
       ⟨⟨(some 33), .nilck (.t 22), none, none⟩, [0]⟩,
       ⟨⟨(some 34), .fadr 65 (.t 33), none, none⟩, [11]⟩,
       ⟨⟨(some 35), .iadr (.arr 8 8 true) (.t 34) (.t 23), none, none⟩, [12, 1]⟩,
       ⟨⟨(some 36), .iadr (.arr 8 1 false) (.t 35) (.t 24), none, none⟩, [13, 2, 0, 1, 2, 3, 4, 5, 6, 7, 8, 9, 10]⟩,
       ⟨⟨none, .store 1 false (.t 36) (.t 32), none, none⟩, [14, 10, 10, 0, 1, 2, 3, 4, 5, 6, 7, 8, 9, 10]⟩])
      (.seq (.draws [⟨⟨(some 37), .mov (.t 0), none, none⟩, []⟩,
        ⟨⟨(some 38), .mov (.t 6), none, some (.int .i64)⟩, []⟩,
        ⟨⟨(some 39), .mov (.t 7), none, some (.int .i64)⟩, []⟩,
        ⟨⟨(some 40), .load 64 true (.t 5), none, none⟩, []⟩,
        ⟨⟨(some 41), .mov (.t 1), none, some (.int .i64)⟩, []⟩,
        ⟨⟨(some 42), .mov (.t 6), none, some (.int .i64)⟩, []⟩,
        ⟨⟨(some 43), .mov (.t 7), none, some (.int .i64)⟩, []⟩,
        ⟨⟨(some 44), .call N_level_over [((.t 40), .fz), ((.t 41), .fz), ((.t 42), .fz), ((.t 43), .fz)] [.fz], none, some (.int .i64)⟩, [3, 4, 5, 6]⟩,
        ⟨⟨(some 45), .nilck (.t 37), none, none⟩, [0]⟩,
        ⟨⟨(some 46), .fadr 129 (.t 45), none, none⟩, [8]⟩,
        ⟨⟨(some 47), .iadr (.arr 8 8 true) (.t 46) (.t 38), none, none⟩, [9, 1]⟩,
        ⟨⟨(some 48), .iadr (.arr 8 1 false) (.t 47) (.t 39), none, none⟩, [10, 2, 0, 1, 2, 3, 4, 5, 6, 7]⟩,
        ⟨⟨none, .store 1 false (.t 48) (.t 44), none, none⟩, [11, 7, 7, 0, 1, 2, 3, 4, 5, 6, 7]⟩])
       (.seq (.region [⟨(some 49), .mov (.t 0), none, none⟩,
         ⟨(some 50), .mov (.t 6), none, some (.int .i64)⟩,
         ⟨(some 51), .mov (.t 7), none, some (.int .i64)⟩,
         ⟨(some 52), .nilck (.t 49), none, none⟩,
         ⟨(some 53), .fadr 65 (.t 52), none, none⟩,
         ⟨(some 54), .iadr (.arr 8 8 true) (.t 53) (.t 50), none, none⟩,
         ⟨(some 55), .iadr (.arr 8 1 false) (.t 54) (.t 51), none, none⟩,
         ⟨(some 56), .load 1 false (.t 55), none, some (.int .i64)⟩,
         ⟨(some 57), .binI .lss .i64 (.t 56) (.c (.fz (.int .i64 0))), none, some .bool⟩,
         ⟨(some 58), .mov (.t 57), none, some .bool⟩,
         ⟨(some 59), .mov (.t 0), (some (58, false)), none⟩,
         ⟨(some 60), .mov (.t 6), (some (58, false)), some (.int .i64)⟩,
         ⟨(some 61), .mov (.t 7), (some (58, false)), some (.int .i64)⟩,
         ⟨(some 62), .nilck (.t 59), (some (58, false)), none⟩,
         ⟨(some 63), .fadr 129 (.t 62), (some (58, false)), none⟩,
         ⟨(some 64), .iadr (.arr 8 8 true) (.t 63) (.t 60), (some (58, false)), none⟩,
         ⟨(some 65), .iadr (.arr 8 1 false) (.t 64) (.t 61), (some (58, false)), none⟩,
         ⟨(some 66), .load 1 false (.t 65), (some (58, false)), some (.int .i64)⟩,
         ⟨(some 67), .binI .lss .i64 (.t 66) (.c (.fz (.int .i64 0))), (some (58, false)), some .bool⟩,
         ⟨(some 68), .pick (.t 58) (.c (.fz (.bool true))) (.t 67), none, some .bool⟩])
        (.cond (.t 68) (.seq (.region [⟨(some 4), .mov (.c (.fz (.bool false))), none, some .bool⟩])
          (.ret))
         (.skip)))))))
   (.region [⟨(some 69), .binI .add .i64 (.t 19) (.c (.fz (.int .i64 1))), none, some (.int .i64)⟩,
    ⟨(some 19), .mov (.t 69), none, some (.int .i64)⟩])))
def A_level_Lattice_fill_s1 : ACode := .region [⟨(some 70), .binI .add .i64 (.t 15) (.c (.fz (.int .i64 1))), none, some (.int .i64)⟩,
 ⟨(some 15), .mov (.t 70), none, some (.int .i64)⟩]
def A_level_Lattice_fill_b2 : ACode := .seq (.region [⟨(some 16), .binI .lss .i64 (.t 15) (.t 14), none, some .bool⟩])
 (.seq (.cond (.t 16) (.skip)
   (.exit 0))
  (.seq (.block 1 (.seq (.region [⟨(some 17), .mov (.t 15), none, some (.int .i64)⟩,
      ⟨(some 6), .mov (.t 17), none, some (.int .i64)⟩])
     (.seq (.region [⟨(some 18), .mov (.t 1), none, some (.int .i64)⟩,
       ⟨(some 19), .mov (.c (.fz (.int .i64 0))), none, some (.int .i64)⟩])
      (.block 2 (.loop [0, 1, 5, 6, 14, 15, 18, 19] [0, 1, 4, 5, 14, 15] A_level_Lattice_fill_b1)))))
   A_level_Lattice_fill_s1))
def A_level_Lattice_fill_b3 : ACode := .seq (.region [⟨(some 73), .binI .lss .i64 (.t 72) (.t 71), none, some .bool⟩])
 (.seq (.cond (.t 73) (.skip)
   (.exit 4))
  (.seq (.block 5 (.seq (.region [⟨(some 74), .mov (.t 72), none, some (.int .i64)⟩,
      ⟨(some 8), .mov (.t 74), none, some (.int .i64)⟩])
     (.seq (.draws [⟨⟨(some 75), .mov (.t 0), none, none⟩, []⟩,
       ⟨⟨(some 76), .mov (.t 0), none, none⟩, []⟩,
       ⟨⟨(some 77), .mov (.t 0), none, none⟩, []⟩,
       ⟨⟨(some 78), .nilck (.t 77), none, none⟩, [2]⟩,
       ⟨⟨(some 79), .fadr 193 (.t 78), none, none⟩, [3]⟩,
       ⟨⟨(some 80), .load 1 false (.t 79), none, some (.int .i64)⟩, [4]⟩,
       ⟨⟨(some 81), .mov (.t 8), none, some (.int .i64)⟩, []⟩,
       ⟨⟨(some 82), .nilck (.t 76), none, none⟩, [1]⟩,
       ⟨⟨(some 83), .fadr 129 (.t 82), none, none⟩, [7]⟩,
       ⟨⟨(some 84), .iadr (.arr 8 8 true) (.t 83) (.t 80), none, none⟩, [8, 5]⟩,
       ⟨⟨(some 85), .iadr (.arr 8 1 false) (.t 84) (.t 81), none, none⟩, [9, 6]⟩,
       ⟨⟨(some 86), .load 1 false (.t 85), none, some (.int .i64)⟩, [10]⟩,
       ⟨⟨(some 87), .nilck (.t 75), none, none⟩, [0, 0, 1, 2, 3, 4, 5, 6, 7, 8, 9, 10, 11]⟩,
       ⟨⟨(some 88), .fadr 193 (.t 87), none, none⟩, [12, 0, 1, 2, 3, 4, 5, 6, 7, 8, 9, 10, 11]⟩,
       ⟨⟨none, .store 1 false (.t 88) (.t 86), none, none⟩, [13, 11, 0, 1, 2, 3, 4, 5, 6, 7, 8, 9, 10, 11]⟩])
      (.draws [⟨⟨(some 89), .mov (.t 0), none, none⟩, []⟩,
       ⟨⟨(some 90), .mov (.t 0), none, none⟩, []⟩,
       ⟨⟨(some 91), .mov (.t 0), none, none⟩, []⟩,
       ⟨⟨(some 92), .nilck (.t 91), none, none⟩, [2]⟩,
       ⟨⟨(some 93), .fadr 194 (.t 92), none, none⟩, [3]⟩,
       ⟨⟨(some 94), .load 1 false (.t 93), none, some (.int .i64)⟩, [4]⟩,
       ⟨⟨(some 95), .mov (.t 8), none, some (.int .i64)⟩, []⟩,
       ⟨⟨(some 96), .nilck (.t 90), none, none⟩, [1]⟩,
       ⟨⟨(some 97), .fadr 65 (.t 96), none, none⟩, [7]⟩,
       ⟨⟨(some 98), .iadr (.arr 8 8 true) (.t 97) (.t 94), none, none⟩, [8, 5]⟩,
       ⟨⟨(some 99), .iadr (.arr 8 1 false) (.t 98) (.t 95), none, none⟩, [9, 6]⟩,
       ⟨⟨(some 100), .load 1 false (.t 99), none, some (.int .i64)⟩, [10]⟩,
       ⟨⟨(some 101), .nilck (.t 89), none, none⟩, [0, 0, 1, 2, 3, 4, 5, 6, 7, 8, 9, 10, 11]⟩,
       ⟨⟨(some 102), .fadr 194 (.t 101), none, none⟩, [12, 0, 1, 2, 3, 4, 5, 6, 7, 8, 9, 10, 11]⟩,
       ⟨⟨none, .store 1 false (.t 102) (.t 100), none, none⟩, [13, 11, 0, 1, 2, 3, 4, 5, 6, 7, 8, 9, 10, 11]⟩]))))
   (.region [⟨(some 103), .binI .add .i64 (.t 72) (.c (.fz (.int .i64 1))), none, some (.int .i64)⟩,
    ⟨(some 72), .mov (.t 103), none, some (.int .i64)⟩])))
def A_level_Lattice_fill_s2 : ACode := .seq (.region [⟨(some 4), .mov (.c (.fz (.bool true))), none, some .bool⟩])
 (.ret)
def A_level_Lattice_fill_s3 : ACode := .seq (.seq (.region [⟨(some 71), .mov (.t 1), none, some (.int .i64)⟩,
   ⟨(some 72), .mov (.c (.fz (.int .i64 0))), none, some (.int .i64)⟩])
  (.block 4 (.loop [0, 71, 72] [] A_level_Lattice_fill_b3)))
 A_level_Lattice_fill_s2
def A_level_Lattice_fill : AFunc := ⟨2, [(.tmp 4, .fz)], .seq (.region [⟨(some 4), .mov (.c (.fz (.bool false))), none, some .bool⟩])
 (.seq (.region [⟨(some 9), .mov (.t 0), none, none⟩,
   ⟨(some 10), .nilck (.t 9), none, none⟩,
   ⟨(some 11), .fadr 1 (.t 10), none, none⟩,
   ⟨(some 12), .load 64 true (.t 11), none, none⟩,
   ⟨(some 13), .call N_level_turned [((.t 12), .fz)] [.fz], none, none⟩,
   ⟨(some 5), .alloc 64 true (.fz (.ag [.bool false, .bool false, .bool false, .bool false, .bool false, .bool false, .bool false, .bool false, .bool false, .bool false, .bool false, .bool false, .bool false, .bool false, .bool false, .bool false, .bool false, .bool false, .bool false, .bool false, .bool false, .bool false, .bool false, .bool false, .bool false, .bool false, .bool false, .bool false, .bool false, .bool false, .bool false, .bool false, .bool false, .bool false, .bool false, .bool false, .bool false, .bool false, .bool false, .bool false, .bool false, .bool false, .bool false, .bool false, .bool false, .bool false, .bool false, .bool false, .bool false, .bool false, .bool false, .bool false, .bool false, .bool false, .bool false, .bool false, .bool false, .bool false, .bool false, .bool false, .bool false, .bool false, .bool false, .bool false])), none, none⟩,
   ⟨none, .store 64 true (.t 5) (.t 13), none, none⟩])
  (.seq (.seq (.region [⟨(some 14), .mov (.t 1), none, some (.int .i64)⟩,
     ⟨(some 15), .mov (.c (.fz (.int .i64 0))), none, some (.int .i64)⟩])
    (.block 0 (.loop [0, 1, 5, 14, 15] [0, 1, 4] A_level_Lattice_fill_b2)))
   A_level_Lattice_fill_s3))⟩
def K_level_Lattice_fill_2 (R : Orc) (k : Nat) (w : Bool) : AExit → St → Option Ans := (kBlk 0 (kSeq R k w [0] A_level_Lattice_fill_s3 (kFin R [(.tmp 4, .fz)] [0])))
def L_level_Lattice_fill_2_0 (R : Orc) (k : Nat) (w : Bool) (n : Nat) (x1 : Int) (x14 : Int) (x15 : Int) (h0 : FV) (h4096 : FV) := loopL R k w [0] [0, 1, 5, 14, 15] [0, 1, 4] A_level_Lattice_fill_b2 n ⟨[(0, .ptr 0 0 0), (1, .fz (FV.int .i64 x1)), (5, .ptr 4096 0 0), (14, .fz (FV.int .i64 x14)), (15, .fz (FV.int .i64 x15))], [(0, .var 195 true (.fz h0)), (4095, .dead), (4096, .var 64 true (.fz h4096))]⟩
def K_level_Lattice_fill_1 (R : Orc) (k : Nat) (w : Bool) (n : Nat) : AExit → St → Option (AExit × St) := (kBlk 2 (kBlk 1 (kSeq R k w [0] A_level_Lattice_fill_s1 (kLoop R k w [0] [0, 1, 5, 14, 15] [0, 1, 4] A_level_Lattice_fill_b2 n))))
def L_level_Lattice_fill_1_0 (R : Orc) (k : Nat) (w : Bool) (n : Nat) (x1 : Int) (x6 : Int) (x14 : Int) (x15 : Int) (x18 : Int) (x19 : Int) (h0 : FV) (h4096 : FV) := loopL R k w [0] [0, 1, 5, 6, 14, 15, 18, 19] [0, 1, 4, 5, 14, 15] A_level_Lattice_fill_b1 n ⟨[(0, .ptr 0 0 0), (1, .fz (FV.int .i64 x1)), (5, .ptr 4096 0 0), (6, .fz (FV.int .i64 x6)), (14, .fz (FV.int .i64 x14)), (15, .fz (FV.int .i64 x15)), (18, .fz (FV.int .i64 x18)), (19, .fz (FV.int .i64 x19))], [(0, .var 195 true (.fz h0)), (4095, .dead), (4096, .var 64 true (.fz h4096))]⟩
def X_level_Lattice_fill_2_0 (x1 : Int) (h0 : FV) : St := ⟨[(0, .ptr 0 0 0), (1, .fz (FV.int .i64 x1))], [(0, .var 195 true (.fz h0)), (4095, .dead)]⟩
def X_level_Lattice_fill_1_0 (x1 : Int) (x4 : Bool) (x14 : Int) (x15 : Int) (h0 : FV) (h4096 : FV) : St := ⟨[(0, .ptr 0 0 0), (1, .fz (FV.int .i64 x1)), (4, .fz (FV.bool x4)), (5, .ptr 4096 0 0), (14, .fz (FV.int .i64 x14)), (15, .fz (FV.int .i64 x15))], [(0, .var 195 true (.fz h0)), (4095, .dead), (4096, .var 64 true (.fz h4096))]⟩
def X_level_Lattice_fill_1_1 (x1 : Int) (x14 : Int) (x15 : Int) (h0 : FV) (h4096 : FV) : St := ⟨[(0, .ptr 0 0 0), (1, .fz (FV.int .i64 x1)), (5, .ptr 4096 0 0), (14, .fz (FV.int .i64 x14)), (15, .fz (FV.int .i64 x15))], [(0, .var 195 true (.fz h0)), (4095, .dead), (4096, .var 64 true (.fz h4096))]⟩
def K_level_Lattice_fill_3 (R : Orc) (k : Nat) (w : Bool) : AExit → St → Option Ans := (kBlk 4 (kSeq R k w [0] A_level_Lattice_fill_s2 (kFin R [(.tmp 4, .fz)] [0])))
def L_level_Lattice_fill_3_0 (R : Orc) (k : Nat) (w : Bool) (n : Nat) (x71 : Int) (x72 : Int) (h0 : FV) := loopL R k w [0] [0, 71, 72] [] A_level_Lattice_fill_b3 n ⟨[(0, .ptr 0 0 0), (71, .fz (FV.int .i64 x71)), (72, .fz (FV.int .i64 x72))], [(0, .var 195 true (.fz h0)), (4095, .dead)]⟩
def X_level_Lattice_fill_2_1 (x1 : Int) (x4 : Bool) (h0 : FV) : St := ⟨[(0, .ptr 0 0 0), (1, .fz (FV.int .i64 x1)), (4, .fz (FV.bool x4))], [(0, .var 195 true (.fz h0)), (4095, .dead)]⟩
def X_level_Lattice_fill_3_0 (h0 : FV) : St := ⟨[], [(0, .var 195 true (.fz h0)), (4095, .dead)]⟩
theorem E_level_Lattice_fill (R : Orc) (k : Nat) (w : Bool) (a0 : FV) (a1 : Int) : callL R k w A_level_Lattice_fill [.pv 195 true (.fz a0), .fz (FV.int .i64 a1)] = when (FV.isAg 195 a0) (onR (R N_level_turned [.fz (FV.ag (List.map (fun j => FV.cell a0 (1 + j)) (List.range 64)))]) fun r0 => when (List.isEmpty r0.2 && allF [.fz] r0.1) (when (FV.fits 64 true (TV.toF (List.getD r0.1 0 TV.em))) (onL (L_level_Lattice_fill_2_0 R k w k a1 a1 0 a0 (TV.toF (List.getD r0.1 0 TV.em))) (K_level_Lattice_fill_2 R k w)))) := by kernel_rfl
theorem L_level_Lattice_fill_2_0_eq (R : Orc) (k : Nat) (w : Bool) (n : Nat) (x1 : Int) (x14 : Int) (x15 : Int) (h0 : FV) (h4096 : FV) : L_level_Lattice_fill_2_0 R k w (n + 1) x1 x14 x15 h0 h4096 = ifB (decide (x15 < x14))
  (onL (L_level_Lattice_fill_1_0 R k w k x1 x15 x14 x15 x1 0 h0 h4096) (K_level_Lattice_fill_1 R k w n))
  (some ((.exit 0), X_level_Lattice_fill_2_0 x1 h0)) := by kernel_rfl
theorem L_level_Lattice_fill_1_0_eq (R : Orc) (k : Nat) (w : Bool) (n : Nat) (x1 : Int) (x6 : Int) (x14 : Int) (x15 : Int) (x18 : Int) (x19 : Int) (h0 : FV) (h4096 : FV) : L_level_Lattice_fill_1_0 R k w (n + 1) x1 x6 x14 x15 x18 x19 h0 h4096 = ifB (decide (x19 < x18))
  (when (FV.isAg 195 h0) (onR (R N_level_over [.fz (FV.ag (List.map (fun j => FV.cell h0 (1 + j)) (List.range 64))), .fz (FV.int .i64 x1), .fz (FV.int .i64 x6), .fz (FV.int .i64 x19)]) fun r1 => when (List.isEmpty r1.2 && allF [.fz] r1.1) (when (FV.isInt .i64 (TV.toF (List.getD r1.1 0 TV.em))) (when (decide (0 ≤ x6) && decide (x6 < 8)) (when (decide (0 ≤ x19) && decide (x19 < 8)) (when ((FV.isAg 195 h0) && true) (when (Nat.blt ((65 + ((Int.toNat x6) * 8)) + ((Int.toNat x19) * 1)) 195) (onR (R N_level_over [.fz h4096, .fz (FV.int .i64 x1), .fz (FV.int .i64 x6), .fz (FV.int .i64 x19)]) fun r2 => when (List.isEmpty r2.2 && allF [.fz] r2.1) (when (FV.isInt .i64 (TV.toF (List.getD r2.1 0 TV.em))) (when (decide (0 ≤ x6) && decide (x6 < 8)) (when (decide (0 ≤ x19) && decide (x19 < 8)) (when ((FV.isAg 195 (FV.ag (List.set (FV.toAg h0) ((65 + ((Int.toNat x6) * 8)) + ((Int.toNat x19) * 1)) (FV.int .i64 (FV.toInt (TV.toF (List.getD r1.1 0 TV.em))))))) && true) (when (Nat.blt ((129 + ((Int.toNat x6) * 8)) + ((Int.toNat x19) * 1)) 195) (when (decide (0 ≤ x6) && decide (x6 < 8)) (when (decide (0 ≤ x19) && decide (x19 < 8)) (when (FV.isAg 195 (FV.ag (List.set (FV.toAg (FV.ag (List.set (FV.toAg h0) ((65 + ((Int.toNat x6) * 8)) + ((Int.toNat x19) * 1)) (FV.int .i64 (FV.toInt (TV.toF (List.getD r1.1 0 TV.em))))))) ((129 + ((Int.toNat x6) * 8)) + ((Int.toNat x19) * 1)) (FV.int .i64 (FV.toInt (TV.toF (List.getD r2.1 0 TV.em))))))) (when (Nat.blt ((65 + ((Int.toNat x6) * 8)) + ((Int.toNat x19) * 1)) 195) (when (FV.isInt .i64 (FV.cell (FV.ag (List.set (FV.toAg (FV.ag (List.set (FV.toAg h0) ((65 + ((Int.toNat x6) * 8)) + ((Int.toNat x19) * 1)) (FV.int .i64 (FV.toInt (TV.toF (List.getD r1.1 0 TV.em))))))) ((129 + ((Int.toNat x6) * 8)) + ((Int.toNat x19) * 1)) (FV.int .i64 (FV.toInt (TV.toF (List.getD r2.1 0 TV.em)))))) ((65 + ((Int.toNat x6) * 8)) + ((Int.toNat x19) * 1)))) (ifB (decide ((FV.toInt (FV.cell (FV.ag (List.set (FV.toAg (FV.ag (List.set (FV.toAg h0) ((65 + ((Int.toNat x6) * 8)) + ((Int.toNat x19) * 1)) (FV.int .i64 (FV.toInt (TV.toF (List.getD r1.1 0 TV.em))))))) ((129 + ((Int.toNat x6) * 8)) + ((Int.toNat x19) * 1)) (FV.int .i64 (FV.toInt (TV.toF (List.getD r2.1 0 TV.em)))))) ((65 + ((Int.toNat x6) * 8)) + ((Int.toNat x19) * 1)))) < 0))
   (some (.ret, X_level_Lattice_fill_1_0 x1 false x14 x15 (FV.ag (List.set (FV.toAg (FV.ag (List.set (FV.toAg h0) ((65 + ((Int.toNat x6) * 8)) + ((Int.toNat x19) * 1)) (FV.int .i64 (FV.toInt (TV.toF (List.getD r1.1 0 TV.em))))))) ((129 + ((Int.toNat x6) * 8)) + ((Int.toNat x19) * 1)) (FV.int .i64 (FV.toInt (TV.toF (List.getD r2.1 0 TV.em)))))) h4096))
   (when (decide (0 ≤ x6) && decide (x6 < 8)) (when (decide (0 ≤ x19) && decide (x19 < 8)) (when (FV.isAg 195 (FV.ag (List.set (FV.toAg (FV.ag (List.set (FV.toAg h0) ((65 + ((Int.toNat x6) * 8)) + ((Int.toNat x19) * 1)) (FV.int .i64 (FV.toInt (TV.toF (List.getD r1.1 0 TV.em))))))) ((129 + ((Int.toNat x6) * 8)) + ((Int.toNat x19) * 1)) (FV.int .i64 (FV.toInt (TV.toF (List.getD r2.1 0 TV.em))))))) (when (Nat.blt ((129 + ((Int.toNat x6) * 8)) + ((Int.toNat x19) * 1)) 195) (when (FV.isInt .i64 (FV.cell (FV.ag (List.set (FV.toAg (FV.ag (List.set (FV.toAg h0) ((65 + ((Int.toNat x6) * 8)) + ((Int.toNat x19) * 1)) (FV.int .i64 (FV.toInt (TV.toF (List.getD r1.1 0 TV.em))))))) ((129 + ((Int.toNat x6) * 8)) + ((Int.toNat x19) * 1)) (FV.int .i64 (FV.toInt (TV.toF (List.getD r2.1 0 TV.em)))))) ((129 + ((Int.toNat x6) * 8)) + ((Int.toNat x19) * 1)))) (ifB (decide ((FV.toInt (FV.cell (FV.ag (List.set (FV.toAg (FV.ag (List.set (FV.toAg h0) ((65 + ((Int.toNat x6) * 8)) + ((Int.toNat x19) * 1)) (FV.int .i64 (FV.toInt (TV.toF (List.getD r1.1 0 TV.em))))))) ((129 + ((Int.toNat x6) * 8)) + ((Int.toNat x19) * 1)) (FV.int .i64 (FV.toInt (TV.toF (List.getD r2.1 0 TV.em)))))) ((129 + ((Int.toNat x6) * 8)) + ((Int.toNat x19) * 1)))) < 0))
    (some (.ret, X_level_Lattice_fill_1_0 x1 false x14 x15 (FV.ag (List.set (FV.toAg (FV.ag (List.set (FV.toAg h0) ((65 + ((Int.toNat x6) * 8)) + ((Int.toNat x19) * 1)) (FV.int .i64 (FV.toInt (TV.toF (List.getD r1.1 0 TV.em))))))) ((129 + ((Int.toNat x6) * 8)) + ((Int.toNat x19) * 1)) (FV.int .i64 (FV.toInt (TV.toF (List.getD r2.1 0 TV.em)))))) h4096))
    (L_level_Lattice_fill_1_0 R k w n x1 x6 x14 x15 x18 (IntKind.wrap .i64 (x19 + 1)) (FV.ag (List.set (FV.toAg (FV.ag (List.set (FV.toAg h0) ((65 + ((Int.toNat x6) * 8)) + ((Int.toNat x19) * 1)) (FV.int .i64 (FV.toInt (TV.toF (List.getD r1.1 0 TV.em))))))) ((129 + ((Int.toNat x6) * 8)) + ((Int.toNat x19) * 1)) (FV.int .i64 (FV.toInt (TV.toF (List.getD r2.1 0 TV.em)))))) h4096))))))))))))))))))))))))))
  (some ((.exit 2), X_level_Lattice_fill_1_1 x1 x14 x15 h0 h4096)) := by kernel_rfl
theorem X_level_Lattice_fill_2_0_eq (R : Orc) (k : Nat) (w : Bool) (x1 : Int) (h0 : FV) : K_level_Lattice_fill_2 R k w (.exit 0) (X_level_Lattice_fill_2_0 x1 h0) = onL (L_level_Lattice_fill_3_0 R k w k x1 0 h0) (K_level_Lattice_fill_3 R k w) := by kernel_rfl
theorem X_level_Lattice_fill_1_0_eq (R : Orc) (k : Nat) (w : Bool) (n : Nat) (x1 : Int) (x4 : Bool) (x14 : Int) (x15 : Int) (h0 : FV) (h4096 : FV) : K_level_Lattice_fill_1 R k w n .ret (X_level_Lattice_fill_1_0 x1 x4 x14 x15 h0 h4096) = some (.ret, X_level_Lattice_fill_2_1 x1 x4 h0) := by kernel_rfl
theorem X_level_Lattice_fill_1_1_eq (R : Orc) (k : Nat) (w : Bool) (n : Nat) (x1 : Int) (x14 : Int) (x15 : Int) (h0 : FV) (h4096 : FV) : K_level_Lattice_fill_1 R k w n (.exit 2) (X_level_Lattice_fill_1_1 x1 x14 x15 h0 h4096) = L_level_Lattice_fill_2_0 R k w n x1 x14 (IntKind.wrap .i64 (x15 + 1)) h0 h4096 := by kernel_rfl
theorem L_level_Lattice_fill_3_0_eq (R : Orc) (k : Nat) (w : Bool) (n : Nat) (x71 : Int) (x72 : Int) (h0 : FV) : L_level_Lattice_fill_3_0 R k w (n + 1) x71 x72 h0 = ifB (decide (x72 < x71))
  (when (FV.isAg 195 h0) (when (FV.isInt .i64 (FV.cell h0 193)) (when (decide (0 ≤ (FV.toInt (FV.cell h0 193))) && decide ((FV.toInt (FV.cell h0 193)) < 8)) (when (decide (0 ≤ x72) && decide (x72 < 8)) (when (FV.isAg 195 h0) (when (Nat.blt ((129 + ((Int.toNat (FV.toInt (FV.cell h0 193))) * 8)) + ((Int.toNat x72) * 1)) 195) (when (FV.isInt .i64 (FV.cell h0 ((129 + ((Int.toNat (FV.toInt (FV.cell h0 193))) * 8)) + ((Int.toNat x72) * 1)))) (when ((FV.isAg 195 h0) && true) (when (FV.isAg 195 (FV.ag (List.set (FV.toAg h0) 193 (FV.int .i64 (FV.toInt (FV.cell h0 ((129 + ((Int.toNat (FV.toInt (FV.cell h0 193))) * 8)) + ((Int.toNat x72) * 1)))))))) (when (FV.isInt .i64 (FV.cell (FV.ag (List.set (FV.toAg h0) 193 (FV.int .i64 (FV.toInt (FV.cell h0 ((129 + ((Int.toNat (FV.toInt (FV.cell h0 193))) * 8)) + ((Int.toNat x72) * 1))))))) 194)) (when (decide (0 ≤ (FV.toInt (FV.cell (FV.ag (List.set (FV.toAg h0) 193 (FV.int .i64 (FV.toInt (FV.cell h0 ((129 + ((Int.toNat (FV.toInt (FV.cell h0 193))) * 8)) + ((Int.toNat x72) * 1))))))) 194))) && decide ((FV.toInt (FV.cell (FV.ag (List.set (FV.toAg h0) 193 (FV.int .i64 (FV.toInt (FV.cell h0 ((129 + ((Int.toNat (FV.toInt (FV.cell h0 193))) * 8)) + ((Int.toNat x72) * 1))))))) 194)) < 8)) (when (decide (0 ≤ x72) && decide (x72 < 8)) (when (FV.isAg 195 (FV.ag (List.set (FV.toAg h0) 193 (FV.int .i64 (FV.toInt (FV.cell h0 ((129 + ((Int.toNat (FV.toInt (FV.cell h0 193))) * 8)) + ((Int.toNat x72) * 1)))))))) (when (Nat.blt ((65 + ((Int.toNat (FV.toInt (FV.cell (FV.ag (List.set (FV.toAg h0) 193 (FV.int .i64 (FV.toInt (FV.cell h0 ((129 + ((Int.toNat (FV.toInt (FV.cell h0 193))) * 8)) + ((Int.toNat x72) * 1))))))) 194))) * 8)) + ((Int.toNat x72) * 1)) 195) (when (FV.isInt .i64 (FV.cell (FV.ag (List.set (FV.toAg h0) 193 (FV.int .i64 (FV.toInt (FV.cell h0 ((129 + ((Int.toNat (FV.toInt (FV.cell h0 193))) * 8)) + ((Int.toNat x72) * 1))))))) ((65 + ((Int.toNat (FV.toInt (FV.cell (FV.ag (List.set (FV.toAg h0) 193 (FV.int .i64 (FV.toInt (FV.cell h0 ((129 + ((Int.toNat (FV.toInt (FV.cell h0 193))) * 8)) + ((Int.toNat x72) * 1))))))) 194))) * 8)) + ((Int.toNat x72) * 1)))) (when ((FV.isAg 195 (FV.ag (List.set (FV.toAg h0) 193 (FV.int .i64 (FV.toInt (FV.cell h0 ((129 + ((Int.toNat (FV.toInt (FV.cell h0 193))) * 8)) + ((Int.toNat x72) * 1)))))))) && true) (L_level_Lattice_fill_3_0 R k w n x71 (IntKind.wrap .i64 (x72 + 1)) (FV.ag (List.set (FV.toAg (FV.ag (List.set (FV.toAg h0) 193 (FV.int .i64 (FV.toInt (FV.cell h0 ((129 + ((Int.toNat (FV.toInt (FV.cell h0 193))) * 8)) + ((Int.toNat x72) * 1)))))))) 194 (FV.int .i64 (FV.toInt (FV.cell (FV.ag (List.set (FV.toAg h0) 193 (FV.int .i64 (FV.toInt (FV.cell h0 ((129 + ((Int.toNat (FV.toInt (FV.cell h0 193))) * 8)) + ((Int.toNat x72) * 1))))))) ((65 + ((Int.toNat (FV.toInt (FV.cell (FV.ag (List.set (FV.toAg h0) 193 (FV.int .i64 (FV.toInt (FV.cell h0 ((129 + ((Int.toNat (FV.toInt (FV.cell h0 193))) * 8)) + ((Int.toNat x72) * 1))))))) 194))) * 8)) + ((Int.toNat x72) * 1))))))))))))))))))))))))
  (some ((.exit 4), X_level_Lattice_fill_3_0 h0)) := by kernel_rfl
theorem X_level_Lattice_fill_2_1_eq (R : Orc) (k : Nat) (w : Bool) (x1 : Int) (x4 : Bool) (h0 : FV) : K_level_Lattice_fill_2 R k w .ret (X_level_Lattice_fill_2_1 x1 x4 h0) = some ([.fz (FV.bool x4)], [.fz h0]) := by kernel_rfl
theorem X_level_Lattice_fill_3_0_eq (R : Orc) (k : Nat) (w : Bool) (h0 : FV) : K_level_Lattice_fill_3 R k w (.exit 4) (X_level_Lattice_fill_3_0 h0) = some ([.fz (FV.bool true)], [.fz h0]) := by kernel_rfl
/-! keyhole/keyholeref09.Deep -/
def A_ref09_Deep_b1 : ACode := .seq (.seq (.region [⟨(some 9), .mov (.t 6), none, some (.int .i64)⟩,
   ⟨(some 10), .fadr 6 (.t 3), none, none⟩,
   ⟨(some 11), .load 1 false (.t 10), none, none⟩,
   ⟨(some 12), .len (.sl 8 true) (.t 11), none, some (.int .i64)⟩,
   ⟨(some 13), .binI .lss .i64 (.t 9) (.t 12), none, some .bool⟩])
  (.cond (.t 13) (.skip)
   (.exit 0)))
 (.seq (.block 1 (.region [⟨(some 16), .mov (.t 0), none, none⟩,
    ⟨(some 17), .mov (.t 5), none, some (.int .i64)⟩,
    ⟨(some 18), .mov (.t 0), none, none⟩,
    ⟨(some 19), .fadr 6 (.t 3), none, none⟩,
    ⟨(some 20), .load 1 false (.t 19), none, none⟩,
    ⟨(some 21), .mov (.t 6), none, some (.int .i64)⟩,
    ⟨(some 22), .iadr (.sl 8 true) (.t 20) (.t 21), none, none⟩,
    ⟨(some 23), .load 8 true (.t 22), none, none⟩,
    ⟨(some 24), .call N_ref09_Deep [((.t 18), .fz), ((.t 23), .fz)] [.fz], none, some (.int .i64)⟩,
    ⟨(some 25), .call N_ref09_Join [((.t 16), .fz), ((.t 17), .fz), ((.t 24), .fz)] [.fz], none, some (.int .i64)⟩,
    ⟨(some 5), .mov (.t 25), none, some (.int .i64)⟩]))
  (.region [⟨(some 14), .mov (.t 6), none, some (.int .i64)⟩,
   ⟨(some 15), .binI .add .i64 (.t 14) (.c (.fz (.int .i64 1))), none, some (.int .i64)⟩,
   ⟨(some 6), .mov (.t 15), none, some (.int .i64)⟩]))
def A_ref09_Deep_s1 : ACode := .seq (.region [⟨(some 26), .mov (.t 5), none, some (.int .i64)⟩,
  ⟨(some 4), .mov (.t 26), none, some (.int .i64)⟩])
 (.ret)
def A_ref09_Deep : AFunc := ⟨2, [(.tmp 4, .fz)], .seq (.region [⟨(some 3), .box 8 true (.t 1), none, none⟩,
  ⟨(some 4), .mov (.c (.fz (.int .i64 0))), none, some (.int .i64)⟩])
 (.seq (.region [⟨(some 7), .fadr 0 (.t 3), none, none⟩,
   ⟨(some 8), .load 1 false (.t 7), none, some (.int .i64)⟩,
   ⟨(some 5), .mov (.t 8), none, some (.int .i64)⟩])
  (.seq (.seq (.region [⟨(some 6), .mov (.c (.fz (.int .i64 0))), none, some (.int .i64)⟩])
    (.block 0 (.loop [0, 3, 5, 6] [5] A_ref09_Deep_b1)))
   A_ref09_Deep_s1))⟩
def K_ref09_Deep_1 (R : Orc) (k : Nat) (w : Bool) : AExit → St → Option Ans := (kBlk 0 (kSeq R k w [] A_ref09_Deep_s1 (kFin R [(.tmp 4, .fz)] [])))
def L_ref09_Deep_1_0 (R : Orc) (k : Nat) (w : Bool) (n : Nat) (x0 : List FV) (x5 : Int) (x6 : Int) (h4096_0 : Int) (h4096_1 : Int) (h4096_2 : Int) (h4096_3 : Int) (h4096_4 : Int) (h4096_5 : ByteArray) (h4096_6 : List FV) (h4096_7 : List FV) := loopL R k w [] [0, 3, 5, 6] [5] A_ref09_Deep_b1 n ⟨[(0, .fz (FV.sl x0)), (3, .ptr 4096 0 0), (5, .fz (FV.int .i64 x5)), (6, .fz (FV.int .i64 x6))], [(4095, .dead), (4096, .var 8 true (.fz (FV.ag [(FV.int .i64 h4096_0), (FV.int .i64 h4096_1), (FV.int .i64 h4096_2), (FV.int .i64 h4096_3), (FV.int .i64 h4096_4), (FV.str h4096_5), (FV.sl h4096_6), (FV.sl h4096_7)])))]⟩
def X_ref09_Deep_1_0 (x5 : Int) : St := ⟨[(5, .fz (FV.int .i64 x5))], [(4095, .dead)]⟩
theorem E_ref09_Deep (R : Orc) (k : Nat) (w : Bool) (a0 : List FV) (a1_0 : Int) (a1_1 : Int) (a1_2 : Int) (a1_3_0 : Int) (a1_3_1 : Int) (a1_4 : ByteArray) (a1_5 : List FV) (a1_6 : List FV) : callL R k w A_ref09_Deep [.fz (FV.sl a0), .fz (FV.ag [(FV.int .i64 a1_0), (FV.int .i64 a1_1), (FV.int .i64 a1_2), (FV.int .i64 a1_3_0), (FV.int .i64 a1_3_1), (FV.str a1_4), (FV.sl a1_5), (FV.sl a1_6)])] = onL (L_ref09_Deep_1_0 R k w k a0 a1_0 0 a1_0 a1_1 a1_2 a1_3_0 a1_3_1 a1_4 a1_5 a1_6) (K_ref09_Deep_1 R k w) := by kernel_rfl
theorem L_ref09_Deep_1_0_eq (R : Orc) (k : Nat) (w : Bool) (n : Nat) (x0 : List FV) (x5 : Int) (x6 : Int) (h4096_0 : Int) (h4096_1 : Int) (h4096_2 : Int) (h4096_3 : Int) (h4096_4 : Int) (h4096_5 : ByteArray) (h4096_6 : List FV) (h4096_7 : List FV) : L_ref09_Deep_1_0 R k w (n + 1) x0 x5 x6 h4096_0 h4096_1 h4096_2 h4096_3 h4096_4 h4096_5 h4096_6 h4096_7 = ifB (decide (x6 < (List.length h4096_6 : Int)))
  (when ((decide (0 ≤ x6)) && (decide (x6 < (List.length h4096_6 : Int)))) (when (FV.fits 8 true (List.getD h4096_6 (Int.toNat x6) FV.nilp)) (onR (R N_ref09_Deep [.fz (FV.sl x0), .fz (List.getD h4096_6 (Int.toNat x6) FV.nilp)]) fun r0 => when (List.isEmpty r0.2 && allF [.fz] r0.1) (when (FV.isInt .i64 (TV.toF (List.getD r0.1 0 TV.em))) (onR (R N_ref09_Join [.fz (FV.sl x0), .fz (FV.int .i64 x5), .fz (FV.int .i64 (FV.toInt (TV.toF (List.getD r0.1 0 TV.em))))]) fun r1 => when (List.isEmpty r1.2 && allF [.fz] r1.1) (when (FV.isInt .i64 (TV.toF (List.getD r1.1 0 TV.em))) (L_ref09_Deep_1_0 R k w n x0 (FV.toInt (TV.toF (List.getD r1.1 0 TV.em))) (IntKind.wrap .i64 (x6 + 1)) h4096_0 h4096_1 h4096_2 h4096_3 h4096_4 h4096_5 h4096_6 h4096_7)))))))
  (some ((.exit 0), X_ref09_Deep_1_0 x5)) := by kernel_rfl
theorem X_ref09_Deep_1_0_eq (R : Orc) (k : Nat) (w : Bool) (x5 : Int) : K_ref09_Deep_1 R k w (.exit 0) (X_ref09_Deep_1_0 x5) = some ([.fz (FV.int .i64 x5)], []) := by kernel_rfl
/-! keyhole/keyholeref05.Is -/
def A_ref05_Is_b1 : ACode := .seq (.seq (.region [⟨(some 61), .mov (.t 7), none, some (.int .i64)⟩,
   ⟨(some 62), .fadr 5 (.t 2), none, none⟩,
   ⟨(some 63), .load 1 false (.t 62), none, none⟩,
   ⟨(some 64), .len (.sl 1 false) (.t 63), none, some (.int .i64)⟩,
   ⟨(some 65), .binI .lss .i64 (.t 61) (.t 64), none, some .bool⟩])
  (.cond (.t 65) (.skip)
   (.exit 0)))
 (.seq (.block 1 (.seq (.region [⟨(some 69), .fadr 5 (.t 2), none, none⟩,
     ⟨(some 70), .load 1 false (.t 69), none, none⟩,
     ⟨(some 71), .mov (.t 7), none, some (.int .i64)⟩,
     ⟨(some 72), .iadr (.sl 1 false) (.t 70) (.t 71), none, none⟩,
     ⟨(some 73), .load 1 false (.t 72), none, some .str⟩,
     ⟨(some 74), .call N_ref03_Signs [((.t 73), .fz)] [.fz, .fz], none, none⟩,
     ⟨(some 68), .mov (.t 74), none, none⟩,
     ⟨(some 75), .extract (.t 68) 0, none, none⟩,
     ⟨(some 76), .extract (.t 68) 1, none, some .bool⟩,
     ⟨(some 8), .mov (.t 75), none, none⟩,
     ⟨(some 9), .mov (.t 76), none, some .bool⟩])
    (.seq (.draws [⟨⟨(some 77), .mov (.t 9), none, some .bool⟩, []⟩,
      ⟨⟨(some 78), .notB (.t 77), none, some .bool⟩, [0]⟩,
      ⟨⟨(some 79), .mov (.t 78), none, some .bool⟩, [1]⟩,
      ⟨⟨(some 80), .mov (.t 7), (some (79, false)), some (.int .i64)⟩, [2]⟩,
      ⟨⟨(some 81), .binI .gtr .i64 (.t 80) (.c (.fz (.int .i64 0))), (some (79, false)), some .bool⟩, [3, 2]⟩,
      ⟨⟨(some 82), .mov (.t 81), (some (79, false)), some .bool⟩, [4, 2, 2]⟩,
      ⟨⟨(some 83), .fadr 5 (.t 2), (some (82, true)), none⟩, [5]⟩,
      ⟨⟨(some 84), .load 1 false (.t 83), (some (82, true)), none⟩, [6, 5]⟩,
      ⟨⟨(some 85), .mov (.t 7), (some (82, true)), some (.int .i64)⟩, [5]⟩,
      ⟨⟨(some 86), .iadr (.sl 1 false) (.t 84) (.t 85), (some (82, true)), none⟩, [7, 8, 5]⟩,
      ⟨⟨(some 87), .load 1 false (.t 86), (some (82, true)), some .str⟩, [9, 5]⟩,
      ⟨⟨(some 88), .fadr 5 (.t 2), (some (82, true)), none⟩, [5]⟩,
      ⟨⟨(some 89), .load 1 false (.t 88), (some (82, true)), none⟩, [11, 5]⟩,
      ⟨⟨(some 90), .mov (.t 7), (some (82, true)), some (.int .i64)⟩, [5]⟩,
      ⟨⟨(some 91), .binI .sub .i64 (.t 90) (.c (.fz (.int .i64 1))), (some (82, true)), some (.int .i64)⟩, [13, 5]⟩,
      ⟨⟨(some 92), .iadr (.sl 1 false) (.t 89) (.t 91), (some (82, true)), none⟩, [12, 14, 5]⟩,
      ⟨⟨(some 93), .load 1 false (.t 92), (some (82, true)), some .str⟩, [15, 5]⟩,
      ⟨⟨(some 94), .binS .leq (.t 87) (.t 93), (some (82, true)), some .bool⟩, [10, 16, 5]⟩,
      ⟨⟨(some 95), .pick (.t 82) (.t 94) (.c (.fz (.bool false))), (some (79, false)), some .bool⟩, [5, 17, 2]⟩,
      ⟨⟨(some 96), .pick (.t 79) (.c (.fz (.bool true))) (.t 95), none, some .bool⟩, [2, 18]⟩])
     (.cond (.t 96) (.seq (.region [⟨(some 4), .mov (.c (.fz (.bool false))), none, some .bool⟩])
       (.ret))
      (.skip)))))
  (.region [⟨(some 66), .mov (.t 7), none, some (.int .i64)⟩,
   ⟨(some 67), .binI .add .i64 (.t 66) (.c (.fz (.int .i64 1))), none, some (.int .i64)⟩,
   ⟨(some 7), .mov (.t 67), none, some (.int .i64)⟩]))
def A_ref05_Is_b2 : ACode := .seq (.seq (.region [⟨(some 97), .mov (.t 10), none, some (.int .i64)⟩,
   ⟨(some 98), .fadr 4 (.t 2), none, none⟩,
   ⟨(some 99), .load 1 false (.t 98), none, none⟩,
   ⟨(some 100), .len (.sl 6 true) (.t 99), none, some (.int .i64)⟩,
   ⟨(some 101), .binI .lss .i64 (.t 97) (.t 100), none, some .bool⟩])
  (.cond (.t 101) (.skip)
   (.exit 2)))
 (.seq (.block 3 (.seq (.region [⟨(some 104), .fadr 4 (.t 2), none, none⟩,
     ⟨(some 105), .load 1 false (.t 104), none, none⟩,
     ⟨(some 106), .mov (.t 10), none, some (.int .i64)⟩,
     ⟨(some 107), .iadr (.sl 6 true) (.t 105) (.t 106), none, none⟩,
     ⟨(some 108), .fadr 0 (.t 107), none, none⟩,
     ⟨(some 109), .load 1 false (.t 108), none, some (.int .i64)⟩,
     ⟨(some 110), .binI .eql .i64 (.t 109) (.c (.fz (.int .i64 7))), none, some .bool⟩,
     ⟨(some 111), .mov (.t 110), none, some .bool⟩,
     ⟨(some 112), .fadr 4 (.t 2), (some (111, false)), none⟩,
     ⟨(some 113), .load 1 false (.t 112), (some (111, false)), none⟩,
     ⟨(some 114), .mov (.t 10), (some (111, false)), some (.int .i64)⟩,
     ⟨(some 115), .iadr (.sl 6 true) (.t 113) (.t 114), (some (111, false)), none⟩,
     ⟨(some 116), .load 6 true (.t 115), (some (111, false)), none⟩,
     ⟨(some 117), .mov (.t 1), (some (111, false)), some (.int .i64)⟩,
     ⟨(some 118), .binI .add .i64 (.t 117) (.c (.fz (.int .i64 1))), (some (111, false)), some (.int .i64)⟩,
     ⟨(some 119), .call N_ref05_Is [((.t 116), .fz), ((.t 118), .fz)] [.fz], (some (111, false)), some .bool⟩,
     ⟨(some 120), .notB (.t 119), (some (111, false)), some .bool⟩,
     ⟨(some 121), .pick (.t 111) (.c (.fz (.bool true))) (.t 120), none, some .bool⟩])
    (.cond (.t 121) (.seq (.region [⟨(some 4), .mov (.c (.fz (.bool false))), none, some .bool⟩])
      (.ret))
     (.skip))))
  (.region [⟨(some 102), .mov (.t 10), none, some (.int .i64)⟩,
   ⟨(some 103), .binI .add .i64 (.t 102) (.c (.fz (.int .i64 1))), none, some (.int .i64)⟩,
   ⟨(some 10), .mov (.t 103), none, some (.int .i64)⟩]))
def A_ref05_Is_s1 : ACode := .seq (.region [⟨(some 4), .mov (.c (.fz (.bool true))), none, some .bool⟩])
 (.ret)
def A_ref05_Is_s2 : ACode := .seq (.seq (.region [⟨(some 10), .mov (.c (.fz (.int .i64 0))), none, some (.int .i64)⟩])
  (.block 2 (.loop [1, 2, 10] [4] A_ref05_Is_b2)))
 A_ref05_Is_s1
def A_ref05_Is_j3 : ACode := .seq (.seq (.region [⟨(some 7), .mov (.c (.fz (.int .i64 0))), none, some (.int .i64)⟩])
  (.block 0 (.loop [1, 2, 7] [1, 2, 4] A_ref05_Is_b1)))
 A_ref05_Is_s2
def A_ref05_Is_j4 : ACode := .seq (.region [⟨(some 29), .fadr 3 (.t 2), none, none⟩,
  ⟨(some 30), .load 1 false (.t 29), none, some .str⟩,
  ⟨(some 31), .call N_ref03_Signs [((.t 30), .fz)] [.fz, .fz], none, none⟩,
  ⟨(some 28), .mov (.t 31), none, none⟩,
  ⟨(some 32), .extract (.t 28) 0, none, none⟩,
  ⟨(some 33), .extract (.t 28) 1, none, some .bool⟩,
  ⟨(some 5), .mov (.t 32), none, none⟩,
  ⟨(some 6), .mov (.t 33), none, some .bool⟩])
 (.seq (.seq (.region [⟨(some 34), .mov (.t 6), none, some .bool⟩,
    ⟨(some 35), .notB (.t 34), none, some .bool⟩,
    ⟨(some 36), .mov (.t 35), none, some .bool⟩,
    ⟨(some 37), .fadr 0 (.t 2), (some (36, false)), none⟩,
    ⟨(some 38), .load 1 false (.t 37), (some (36, false)), some (.int .i64)⟩,
    ⟨(some 39), .binI .eql .i64 (.t 38) (.c (.fz (.int .i64 3))), (some (36, false)), some .bool⟩,
    ⟨(some 40), .mov (.t 39), (some (36, false)), some .bool⟩,
    ⟨(some 41), .fadr 1 (.t 2), (some (40, true)), none⟩,
    ⟨(some 42), .load 2 true (.t 41), (some (40, true)), none⟩,
    ⟨(some 43), .call N_ref04_Is [((.t 42), .fz)] [.fz], (some (40, true)), some .bool⟩,
    ⟨(some 44), .notB (.t 43), (some (40, true)), some .bool⟩,
    ⟨(some 45), .pick (.t 40) (.t 44) (.c (.fz (.bool false))), (some (36, false)), some .bool⟩,
    ⟨(some 46), .pick (.t 36) (.c (.fz (.bool true))) (.t 45), none, some .bool⟩,
    ⟨(some 47), .mov (.t 46), none, some .bool⟩,
    ⟨(some 48), .fadr 0 (.t 2), (some (47, false)), none⟩,
    ⟨(some 49), .load 1 false (.t 48), (some (47, false)), some (.int .i64)⟩,
    ⟨(some 50), .binI .eql .i64 (.t 49) (.c (.fz (.int .i64 6))), (some (47, false)), some .bool⟩,
    ⟨(some 51), .mov (.t 50), (some (47, false)), some .bool⟩,
    ⟨(some 52), .fadr 5 (.t 2), (some (51, true)), none⟩,
    ⟨(some 53), .load 1 false (.t 52), (some (51, true)), none⟩,
    ⟨(some 54), .len (.sl 1 false) (.t 53), (some (51, true)), some (.int .i64)⟩,
    ⟨(some 55), .fadr 4 (.t 2), (some (51, true)), none⟩,
    ⟨(some 56), .load 1 false (.t 55), (some (51, true)), none⟩,
    ⟨(some 57), .len (.sl 6 true) (.t 56), (some (51, true)), some (.int .i64)⟩,
    ⟨(some 58), .binI .neq .i64 (.t 54) (.t 57), (some (51, true)), some .bool⟩,
    ⟨(some 59), .pick (.t 51) (.t 58) (.c (.fz (.bool false))), (some (47, false)), some .bool⟩,
    ⟨(some 60), .pick (.t 47) (.c (.fz (.bool true))) (.t 59), none, some .bool⟩])
   (.cond (.t 60) (.seq (.region [⟨(some 4), .mov (.c (.fz (.bool false))), none, some .bool⟩])
     (.ret))
    (.skip)))
  (.trim [1, 2] A_ref05_Is_j3))
def A_ref05_Is : AFunc := ⟨2, [(.tmp 4, .fz)], .seq (.region [⟨(some 2), .box 6 true (.t 0), none, none⟩,
  ⟨(some 4), .mov (.c (.fz (.bool false))), none, some .bool⟩])
 (.seq (.seq (.region [⟨(some 11), .fadr 0 (.t 2), none, none⟩,
    ⟨(some 12), .load 1 false (.t 11), none, some (.int .i64)⟩,
    ⟨(some 13), .binI .lss .i64 (.t 12) (.c (.fz (.int .i64 0))), none, some .bool⟩,
    ⟨(some 14), .mov (.t 13), none, some .bool⟩,
    ⟨(some 15), .fadr 0 (.t 2), (some (14, false)), none⟩,
    ⟨(some 16), .load 1 false (.t 15), (some (14, false)), some (.int .i64)⟩,
    ⟨(some 17), .binI .gtr .i64 (.t 16) (.c (.fz (.int .i64 7))), (some (14, false)), some .bool⟩,
    ⟨(some 18), .pick (.t 14) (.c (.fz (.bool true))) (.t 17), none, some .bool⟩,
    ⟨(some 19), .mov (.t 18), none, some .bool⟩,
    ⟨(some 20), .load 6 true (.t 2), (some (19, false)), none⟩,
    ⟨(some 21), .call N_ref05_zero [((.t 20), .fz)] [.fz], (some (19, false)), some .bool⟩,
    ⟨(some 22), .notB (.t 21), (some (19, false)), some .bool⟩,
    ⟨(some 23), .pick (.t 19) (.c (.fz (.bool true))) (.t 22), none, some .bool⟩,
    ⟨(some 24), .mov (.t 23), none, some .bool⟩,
    ⟨(some 25), .mov (.t 1), (some (24, false)), some (.int .i64)⟩,
    ⟨(some 26), .binI .gtr .i64 (.t 25) (.c (.fz (.int .i64 32))), (some (24, false)), some .bool⟩,
    ⟨(some 27), .pick (.t 24) (.c (.fz (.bool true))) (.t 26), none, some .bool⟩])
   (.cond (.t 27) (.seq (.region [⟨(some 4), .mov (.c (.fz (.bool false))), none, some .bool⟩])
     (.ret))
    (.skip)))
  (.trim [1, 2] A_ref05_Is_j4))⟩
def J_ref05_Is_4_0 (R : Orc) (k : Nat) (w : Bool) (x1 : Int) (h4096_0 : Int) (h4096_1 : Int) (h4096_2 : Int) (h4096_3 : ByteArray) (h4096_4 : List FV) (h4096_5 : List FV) := execL R k w [] A_ref05_Is_j4 Ans ⟨[(1, .fz (FV.int .i64 x1)), (2, .ptr 4096 0 0)], [(4095, .dead), (4096, .var 6 true (.fz (FV.ag [(FV.int .i64 h4096_0), (FV.int .i64 h4096_1), (FV.int .i64 h4096_2), (FV.str h4096_3), (FV.sl h4096_4), (FV.sl h4096_5)])))]⟩ (kFin R [(.tmp 4, .fz)] [])
def J_ref05_Is_3_0 (R : Orc) (k : Nat) (w : Bool) (x1 : Int) (h4096_0 : Int) (h4096_1 : Int) (h4096_2 : Int) (h4096_3 : ByteArray) (h4096_4 : List FV) (h4096_5 : List FV) := execL R k w [] A_ref05_Is_j3 Ans ⟨[(1, .fz (FV.int .i64 x1)), (2, .ptr 4096 0 0)], [(4095, .dead), (4096, .var 6 true (.fz (FV.ag [(FV.int .i64 h4096_0), (FV.int .i64 h4096_1), (FV.int .i64 h4096_2), (FV.str h4096_3), (FV.sl h4096_4), (FV.sl h4096_5)])))]⟩ (kFin R [(.tmp 4, .fz)] [])
def K_ref05_Is_1 (R : Orc) (k : Nat) (w : Bool) : AExit → St → Option Ans := (kBlk 0 (kSeq R k w [] A_ref05_Is_s2 (kFin R [(.tmp 4, .fz)] [])))
def L_ref05_Is_1_0 (R : Orc) (k : Nat) (w : Bool) (n : Nat) (x1 : Int) (x7 : Int) (h4096_0 : Int) (h4096_1 : Int) (h4096_2 : Int) (h4096_3 : ByteArray) (h4096_4 : List FV) (h4096_5 : List FV) := loopL R k w [] [1, 2, 7] [1, 2, 4] A_ref05_Is_b1 n ⟨[(1, .fz (FV.int .i64 x1)), (2, .ptr 4096 0 0), (7, .fz (FV.int .i64 x7))], [(4095, .dead), (4096, .var 6 true (.fz (FV.ag [(FV.int .i64 h4096_0), (FV.int .i64 h4096_1), (FV.int .i64 h4096_2), (FV.str h4096_3), (FV.sl h4096_4), (FV.sl h4096_5)])))]⟩
def X_ref05_Is_1_0 (x1 : Int) (x4 : Bool) (h4096_0 : Int) (h4096_1 : Int) (h4096_2 : Int) (h4096_3 : ByteArray) (h4096_4 : List FV) (h4096_5 : List FV) : St := ⟨[(1, .fz (FV.int .i64 x1)), (2, .ptr 4096 0 0), (4, .fz (FV.bool x4))], [(4095, .dead), (4096, .var 6 true (.fz (FV.ag [(FV.int .i64 h4096_0), (FV.int .i64 h4096_1), (FV.int .i64 h4096_2), (FV.str h4096_3), (FV.sl h4096_4), (FV.sl h4096_5)])))]⟩
def X_ref05_Is_1_1 (x1 : Int) (h4096_0 : Int) (h4096_1 : Int) (h4096_2 : Int) (h4096_3 : ByteArray) (h4096_4 : List FV) (h4096_5 : List FV) : St := ⟨[(1, .fz (FV.int .i64 x1)), (2, .ptr 4096 0 0)], [(4095, .dead), (4096, .var 6 true (.fz (FV.ag [(FV.int .i64 h4096_0), (FV.int .i64 h4096_1), (FV.int .i64 h4096_2), (FV.str h4096_3), (FV.sl h4096_4), (FV.sl h4096_5)])))]⟩
def K_ref05_Is_2 (R : Orc) (k : Nat) (w : Bool) : AExit → St → Option Ans := (kBlk 2 (kSeq R k w [] A_ref05_Is_s1 (kFin R [(.tmp 4, .fz)] [])))
def L_ref05_Is_2_0 (R : Orc) (k : Nat) (w : Bool) (n : Nat) (x1 : Int) (x10 : Int) (h4096_0 : Int) (h4096_1 : Int) (h4096_2 : Int) (h4096_3 : ByteArray) (h4096_4 : List FV) (h4096_5 : List FV) := loopL R k w [] [1, 2, 10] [4] A_ref05_Is_b2 n ⟨[(1, .fz (FV.int .i64 x1)), (2, .ptr 4096 0 0), (10, .fz (FV.int .i64 x10))], [(4095, .dead), (4096, .var 6 true (.fz (FV.ag [(FV.int .i64 h4096_0), (FV.int .i64 h4096_1), (FV.int .i64 h4096_2), (FV.str h4096_3), (FV.sl h4096_4), (FV.sl h4096_5)])))]⟩
def X_ref05_Is_2_0 (x4 : Bool) : St := ⟨[(4, .fz (FV.bool x4))], [(4095, .dead)]⟩
def X_ref05_Is_2_1 : St := ⟨[], [(4095, .dead)]⟩
theorem E_ref05_Is (R : Orc) (k : Nat) (w : Bool) (a0_0 : Int) (a0_1_0 : Int) (a0_1_1 : Int) (a0_2 : ByteArray) (a0_3 : List FV) (a0_4 : List FV) (a1 : Int) : callL R k w A_ref05_Is [.fz (FV.ag [(FV.int .i64 a0_0), (FV.int .i64 a0_1_0), (FV.int .i64 a0_1_1), (FV.str a0_2), (FV.sl a0_3), (FV.sl a0_4)]), .fz (FV.int .i64 a1)] = ifB (decide (a0_0 < 0))
  (some ([.fz (FV.bool false)], []))
  (ifB (decide (a0_0 > 7))
   (some ([.fz (FV.bool false)], []))
   (onR (R N_ref05_zero [.fz (FV.ag [(FV.int .i64 a0_0), (FV.int .i64 a0_1_0), (FV.int .i64 a0_1_1), (FV.str a0_2), (FV.sl a0_3), (FV.sl a0_4)])]) fun r0 => when (List.isEmpty r0.2 && allF [.fz] r0.1) (when (FV.isBool (TV.toF (List.getD r0.1 0 TV.em))) (ifB (!(FV.toBool (TV.toF (List.getD r0.1 0 TV.em))))
    (some ([.fz (FV.bool false)], []))
    (ifB (decide (a1 > 32))
     (some ([.fz (FV.bool false)], []))
     (jump w (J_ref05_Is_4_0 R k w a1 a0_0 a0_1_0 a0_1_1 a0_2 a0_3 a0_4))))))) := by kernel_rfl
theorem J_ref05_Is_4_0_eq (R : Orc) (k : Nat) (w : Bool) (x1 : Int) (h4096_0 : Int) (h4096_1 : Int) (h4096_2 : Int) (h4096_3 : ByteArray) (h4096_4 : List FV) (h4096_5 : List FV) : J_ref05_Is_4_0 R k w x1 h4096_0 h4096_1 h4096_2 h4096_3 h4096_4 h4096_5 = onR (R N_ref03_Signs [.fz (FV.str h4096_3)]) fun r1 => when (List.isEmpty r1.2 && allF [.fz, .fz] r1.1) (when (FV.isBool (TV.toF (List.getD r1.1 1 TV.em))) (ifB (!(FV.toBool (TV.toF (List.getD r1.1 1 TV.em))))
  (some ([.fz (FV.bool false)], []))
  (ifB (h4096_0 == 3)
   (onR (R N_ref04_Is [.fz (FV.ag [(FV.int .i64 h4096_1), (FV.int .i64 h4096_2)])]) fun r2 => when (List.isEmpty r2.2 && allF [.fz] r2.1) (when (FV.isBool (TV.toF (List.getD r2.1 0 TV.em))) (ifB (!(FV.toBool (TV.toF (List.getD r2.1 0 TV.em))))
    (some ([.fz (FV.bool false)], []))
    (ifB (h4096_0 == 6)
     (ifB ((List.length h4096_5 : Int) != (List.length h4096_4 : Int))
      (some ([.fz (FV.bool false)], []))
      (jump w (J_ref05_Is_3_0 R k w x1 h4096_0 h4096_1 h4096_2 h4096_3 h4096_4 h4096_5)))
     (jump w (J_ref05_Is_3_0 R k w x1 h4096_0 h4096_1 h4096_2 h4096_3 h4096_4 h4096_5))))))
   (ifB (h4096_0 == 6)
    (ifB ((List.length h4096_5 : Int) != (List.length h4096_4 : Int))
     (some ([.fz (FV.bool false)], []))
     (jump w (J_ref05_Is_3_0 R k w x1 h4096_0 h4096_1 h4096_2 h4096_3 h4096_4 h4096_5)))
    (jump w (J_ref05_Is_3_0 R k w x1 h4096_0 h4096_1 h4096_2 h4096_3 h4096_4 h4096_5)))))) := by kernel_rfl
theorem J_ref05_Is_3_0_eq (R : Orc) (k : Nat) (w : Bool) (x1 : Int) (h4096_0 : Int) (h4096_1 : Int) (h4096_2 : Int) (h4096_3 : ByteArray) (h4096_4 : List FV) (h4096_5 : List FV) : J_ref05_Is_3_0 R k w x1 h4096_0 h4096_1 h4096_2 h4096_3 h4096_4 h4096_5 = onL (L_ref05_Is_1_0 R k w k x1 0 h4096_0 h4096_1 h4096_2 h4096_3 h4096_4 h4096_5) (K_ref05_Is_1 R k w) := by kernel_rfl
theorem L_ref05_Is_1_0_eq (R : Orc) (k : Nat) (w : Bool) (n : Nat) (x1 : Int) (x7 : Int) (h4096_0 : Int) (h4096_1 : Int) (h4096_2 : Int) (h4096_3 : ByteArray) (h4096_4 : List FV) (h4096_5 : List FV) : L_ref05_Is_1_0 R k w (n + 1) x1 x7 h4096_0 h4096_1 h4096_2 h4096_3 h4096_4 h4096_5 = ifB (decide (x7 < (List.length h4096_5 : Int)))
  (when ((decide (0 ≤ x7)) && (decide (x7 < (List.length h4096_5 : Int)))) (when (FV.fits 1 false (List.getD h4096_5 (Int.toNat x7) FV.nilp)) (when (FV.isStr (List.getD h4096_5 (Int.toNat x7) FV.nilp)) (onR (R N_ref03_Signs [.fz (FV.str (FV.toStr (List.getD h4096_5 (Int.toNat x7) FV.nilp)))]) fun r3 => when (List.isEmpty r3.2 && allF [.fz, .fz] r3.1) (when (FV.isBool (TV.toF (List.getD r3.1 1 TV.em))) (ifB (!(FV.toBool (TV.toF (List.getD r3.1 1 TV.em))))
   (some (.ret, X_ref05_Is_1_0 x1 false h4096_0 h4096_1 h4096_2 h4096_3 h4096_4 h4096_5))
   (ifB (decide (x7 > 0))
    (when ((decide (0 ≤ x7)) && (decide (x7 < (List.length h4096_5 : Int)))) (when (FV.fits 1 false (List.getD h4096_5 (Int.toNat x7) FV.nilp)) (when (FV.isStr (List.getD h4096_5 (Int.toNat x7) FV.nilp)) (when ((decide (0 ≤ (IntKind.wrap .i64 (x7 - 1)))) && (decide ((IntKind.wrap .i64 (x7 - 1)) < (List.length h4096_5 : Int)))) (when (FV.fits 1 false (List.getD h4096_5 (Int.toNat (IntKind.wrap .i64 (x7 - 1))) FV.nilp)) (when (FV.isStr (List.getD h4096_5 (Int.toNat (IntKind.wrap .i64 (x7 - 1))) FV.nilp)) (ifB (Op.bytesLess (ByteArray.toList (FV.toStr (List.getD h4096_5 (Int.toNat x7) FV.nilp))) (ByteArray.toList (FV.toStr (List.getD h4096_5 (Int.toNat (IntKind.wrap .i64 (x7 - 1))) FV.nilp))) || ByteArray.toList (FV.toStr (List.getD h4096_5 (Int.toNat x7) FV.nilp)) == ByteArray.toList (FV.toStr (List.getD h4096_5 (Int.toNat (IntKind.wrap .i64 (x7 - 1))) FV.nilp)))
     (some (.ret, X_ref05_Is_1_0 x1 false h4096_0 h4096_1 h4096_2 h4096_3 h4096_4 h4096_5))
     (L_ref05_Is_1_0 R k w n x1 (IntKind.wrap .i64 (x7 + 1)) h4096_0 h4096_1 h4096_2 h4096_3 h4096_4 h4096_5))))))))
    (L_ref05_Is_1_0 R k w n x1 (IntKind.wrap .i64 (x7 + 1)) h4096_0 h4096_1 h4096_2 h4096_3 h4096_4 h4096_5))))))))
  (some ((.exit 0), X_ref05_Is_1_1 x1 h4096_0 h4096_1 h4096_2 h4096_3 h4096_4 h4096_5)) := by kernel_rfl
theorem X_ref05_Is_1_0_eq (R : Orc) (k : Nat) (w : Bool) (x1 : Int) (x4 : Bool) (h4096_0 : Int) (h4096_1 : Int) (h4096_2 : Int) (h4096_3 : ByteArray) (h4096_4 : List FV) (h4096_5 : List FV) : K_ref05_Is_1 R k w .ret (X_ref05_Is_1_0 x1 x4 h4096_0 h4096_1 h4096_2 h4096_3 h4096_4 h4096_5) = some ([.fz (FV.bool x4)], []) := by kernel_rfl
theorem X_ref05_Is_1_1_eq (R : Orc) (k : Nat) (w : Bool) (x1 : Int) (h4096_0 : Int) (h4096_1 : Int) (h4096_2 : Int) (h4096_3 : ByteArray) (h4096_4 : List FV) (h4096_5 : List FV) : K_ref05_Is_1 R k w (.exit 0) (X_ref05_Is_1_1 x1 h4096_0 h4096_1 h4096_2 h4096_3 h4096_4 h4096_5) = onL (L_ref05_Is_2_0 R k w k x1 0 h4096_0 h4096_1 h4096_2 h4096_3 h4096_4 h4096_5) (K_ref05_Is_2 R k w) := by kernel_rfl
theorem L_ref05_Is_2_0_eq (R : Orc) (k : Nat) (w : Bool) (n : Nat) (x1 : Int) (x10 : Int) (h4096_0 : Int) (h4096_1 : Int) (h4096_2 : Int) (h4096_3 : ByteArray) (h4096_4 : List FV) (h4096_5 : List FV) : L_ref05_Is_2_0 R k w (n + 1) x1 x10 h4096_0 h4096_1 h4096_2 h4096_3 h4096_4 h4096_5 = ifB (decide (x10 < (List.length h4096_4 : Int)))
  (when ((decide (0 ≤ x10)) && (decide (x10 < (List.length h4096_4 : Int)))) (when (FV.fits 6 true (List.getD h4096_4 (Int.toNat x10) FV.nilp)) (when (FV.isAg 6 (List.getD h4096_4 (Int.toNat x10) FV.nilp)) (when (FV.isInt .i64 (FV.cell (List.getD h4096_4 (Int.toNat x10) FV.nilp) 0)) (ifB ((FV.toInt (FV.cell (List.getD h4096_4 (Int.toNat x10) FV.nilp) 0)) == 7)
   (some (.ret, X_ref05_Is_2_0 false))
   (when ((decide (0 ≤ x10)) && (decide (x10 < (List.length h4096_4 : Int)))) (when (FV.fits 6 true (List.getD h4096_4 (Int.toNat x10) FV.nilp)) (onR (R N_ref05_Is [.fz (List.getD h4096_4 (Int.toNat x10) FV.nilp), .fz (FV.int .i64 (IntKind.wrap .i64 (x1 + 1)))]) fun r4 => when (List.isEmpty r4.2 && allF [.fz] r4.1) (when (FV.isBool (TV.toF (List.getD r4.1 0 TV.em))) (ifB (!(FV.toBool (TV.toF (List.getD r4.1 0 TV.em))))
    (some (.ret, X_ref05_Is_2_0 false))
    (L_ref05_Is_2_0 R k w n x1 (IntKind.wrap .i64 (x10 + 1)) h4096_0 h4096_1 h4096_2 h4096_3 h4096_4 h4096_5)))))))))))
  (some ((.exit 2), X_ref05_Is_2_1)) := by kernel_rfl
theorem X_ref05_Is_2_0_eq (R : Orc) (k : Nat) (w : Bool) (x4 : Bool) : K_ref05_Is_2 R k w .ret (X_ref05_Is_2_0 x4) = some ([.fz (FV.bool x4)], []) := by kernel_rfl
theorem X_ref05_Is_2_1_eq (R : Orc) (k : Nat) (w : Bool) : K_ref05_Is_2 R k w (.exit 2) (X_ref05_Is_2_1) = some ([.fz (FV.bool true)], []) := by kernel_rfl
/-! (*keyhole/level.Lattice).Size -/
def A_level_Lattice_Size : AFunc := ⟨1, [(.tmp 2, .fz)], .seq (.region [⟨(some 2), .mov (.c (.fz (.int .i64 0))), none, some (.int .i64)⟩])
 (.seq (.seq (.region [⟨(some 3), .mov (.t 0), none, none⟩,
    ⟨(some 4), .eqNil false (.t 3), none, some .bool⟩])
   (.cond (.t 4) (.seq (.region [⟨(some 2), .mov (.c (.fz (.int .i64 0))), none, some (.int .i64)⟩])
     (.ret))
    (.skip)))
  (.seq (.region [⟨(some 5), .mov (.t 0), none, none⟩,
    ⟨(some 6), .nilck (.t 5), none, none⟩,
    ⟨(some 7), .fadr 0 (.t 6), none, none⟩,
    ⟨(some 8), .load 1 false (.t 7), none, none⟩,
    ⟨(some 9), .len (.sl 1 false) (.t 8), none, some (.int .i64)⟩,
    ⟨(some 2), .mov (.t 9), none, some (.int .i64)⟩])
   (.ret)))⟩
theorem E_level_Lattice_Size (R : Orc) (k : Nat) (w : Bool) (a0 : FV) : callL R k w A_level_Lattice_Size [.fz (FV.pt 195 true a0 0)] = when (FV.isAg 195 a0) (when (FV.isSl (FV.cell a0 0)) (some ([.fz (FV.int .i64 (List.length (FV.toSl (FV.cell a0 0)) : Int))], []))) := by kernel_rfl
/-! keyhole/node.bare -/
def A_node_bare : AFunc := ⟨5, [(.tmp 10, .fz)], .seq (.region [⟨(some 5), .box 8 true (.t 0), none, none⟩,
  ⟨(some 10), .mov (.c (.fz (.bool false))), none, some .bool⟩])
 (.seq (.region [⟨(some 11), .mov (.t 1), none, some .bool⟩,
   ⟨(some 12), .mov (.t 11), none, some .bool⟩,
   ⟨(some 13), .fadr 3 (.t 5), (some (12, false)), none⟩,
   ⟨(some 14), .load 2 true (.t 13), (some (12, false)), none⟩,
   ⟨(some 15), .build 2 [.fz (.int .i64 0), .fz (.int .i64 0)] [], (some (12, false)), none⟩,
   ⟨(some 16), .eqA false [.int .i64, .int .i64] (.t 14) (.t 15), (some (12, false)), some .bool⟩,
   ⟨(some 17), .pick (.t 12) (.c (.fz (.bool true))) (.t 16), none, some .bool⟩,
   ⟨(some 18), .mov (.t 17), none, some .bool⟩,
   ⟨(some 19), .mov (.t 2), (some (18, true)), some .bool⟩,
   ⟨(some 20), .mov (.t 19), (some (18, true)), some .bool⟩,
   ⟨(some 21), .fadr 5 (.t 5), (some (20, false)), none⟩,
   ⟨(some 22), .load 1 false (.t 21), (some (20, false)), some .str⟩,
   ⟨(some 23), .binS .eql (.t 22) (.c (.fz (.str ⟨#[]⟩))), (some (20, false)), some .bool⟩,
   ⟨(some 24), .pick (.t 20) (.c (.fz (.bool true))) (.t 23), (some (18, true)), some .bool⟩,
   ⟨(some 25), .pick (.t 18) (.t 24) (.c (.fz (.bool false))), none, some .bool⟩,
   ⟨(some 26), .mov (.t 25), none, some .bool⟩,
   ⟨(some 27), .mov (.t 3), (some (26, true)), some .bool⟩,
   ⟨(some 28), .mov (.t 27), (some (26, true)), some .bool⟩,
   ⟨(some 29), .fadr 6 (.t 5), (some (28, false)), none⟩,
   ⟨(some 30), .load 1 false (.t 29), (some (28, false)), none⟩,
   ⟨(some 31), .len (.sl 8 true) (.t 30), (some (28, false)), some (.int .i64)⟩,
   ⟨(some 32), .binI .eql .i64 (.t 31) (.c (.fz (.int .i64 0))), (some (28, false)), some .bool⟩,
   ⟨(some 33), .pick (.t 28) (.c (.fz (.bool true))) (.t 32), (some (26, true)), some .bool⟩,
   ⟨(some 34), .pick (.t 26) (.t 33) (.c (.fz (.bool false))), none, some .bool⟩,
   ⟨(some 35), .mov (.t 34), none, some .bool⟩,
   ⟨(some 36), .mov (.t 4), (some (35, true)), some .bool⟩,
   ⟨(some 37), .mov (.t 36), (some (35, true)), some .bool⟩,
   ⟨(some 38), .fadr 7 (.t 5), (some (37, false)), none⟩,
   ⟨(some 39), .load 1 false (.t 38), (some (37, false)), none⟩,
   ⟨(some 40), .len (.sl 1 false) (.t 39), (some (37, false)), some (.int .i64)⟩,
   ⟨(some 41), .binI .eql .i64 (.t 40) (.c (.fz (.int .i64 0))), (some (37, false)), some .bool⟩,
   ⟨(some 42), .pick (.t 37) (.c (.fz (.bool true))) (.t 41), (some (35, true)), some .bool⟩,
   ⟨(some 43), .pick (.t 35) (.t 42) (.c (.fz (.bool false))), none, some .bool⟩,
   ⟨(some 10), .mov (.t 43), none, some .bool⟩])
  (.ret))⟩
theorem E_node_bare (R : Orc) (k : Nat) (w : Bool) (a0_0 : Int) (a0_1 : Int) (a0_2 : Int) (a0_3_0 : Int) (a0_3_1 : Int) (a0_4 : ByteArray) (a0_5 : List FV) (a0_6 : List FV) (a1 : Bool) (a2 : Bool) (a3 : Bool) (a4 : Bool) : callL R k w A_node_bare [.fz (FV.ag [(FV.int .i64 a0_0), (FV.int .i64 a0_1), (FV.int .i64 a0_2), (FV.int .i64 a0_3_0), (FV.int .i64 a0_3_1), (FV.str a0_4), (FV.sl a0_5), (FV.sl a0_6)]), .fz (FV.bool a1), .fz (FV.bool a2), .fz (FV.bool a3), .fz (FV.bool a4)] = ifB a1
  (ifB a2
   (ifB a3
    (ifB a4
     (some ([.fz (FV.bool true)], []))
     (some ([.fz (FV.bool ((List.length a0_6 : Int) == 0))], [])))
    (ifB ((List.length a0_5 : Int) == 0)
     (ifB a4
      (some ([.fz (FV.bool true)], []))
      (some ([.fz (FV.bool ((List.length a0_6 : Int) == 0))], [])))
     (some ([.fz (FV.bool false)], []))))
   (ifB (ByteArray.toList a0_4 == ByteArray.toList (⟨#[]⟩ : ByteArray))
    (ifB a3
     (ifB a4
      (some ([.fz (FV.bool true)], []))
      (some ([.fz (FV.bool ((List.length a0_6 : Int) == 0))], [])))
     (ifB ((List.length a0_5 : Int) == 0)
      (ifB a4
       (some ([.fz (FV.bool true)], []))
       (some ([.fz (FV.bool ((List.length a0_6 : Int) == 0))], [])))
      (some ([.fz (FV.bool false)], []))))
    (some ([.fz (FV.bool false)], []))))
  (ifB ((a0_3_0 == 0) && ((a0_3_1 == 0) && true))
   (ifB a2
    (ifB a3
     (ifB a4
      (some ([.fz (FV.bool true)], []))
      (some ([.fz (FV.bool ((List.length a0_6 : Int) == 0))], [])))
     (ifB ((List.length a0_5 : Int) == 0)
      (ifB a4
       (some ([.fz (FV.bool true)], []))
       (some ([.fz (FV.bool ((List.length a0_6 : Int) == 0))], [])))
      (some ([.fz (FV.bool false)], []))))
    (ifB (ByteArray.toList a0_4 == ByteArray.toList (⟨#[]⟩ : ByteArray))
     (ifB a3
      (ifB a4
       (some ([.fz (FV.bool true)], []))
       (some ([.fz (FV.bool ((List.length a0_6 : Int) == 0))], [])))
      (ifB ((List.length a0_5 : Int) == 0)
       (ifB a4
        (some ([.fz (FV.bool true)], []))
        (some ([.fz (FV.bool ((List.length a0_6 : Int) == 0))], [])))
       (some ([.fz (FV.bool false)], []))))
     (some ([.fz (FV.bool false)], []))))
   (some ([.fz (FV.bool false)], []))) := by kernel_rfl
/-! keyhole/num.Is -/
def A_num_Is_j1 : ACode := .seq (.region [⟨(some 21), .fadr 1 (.t 1), none, none⟩,
  ⟨(some 22), .load 1 false (.t 21), none, some (.int .i64)⟩,
  ⟨(some 23), .binI .eql .i64 (.t 22) (.c (.fz (.int .i64 0))), none, some .bool⟩,
  ⟨(some 24), .mov (.t 23), none, some .bool⟩,
  ⟨(some 25), .fadr 0 (.t 1), (some (24, false)), none⟩,
  ⟨(some 26), .load 1 false (.t 25), (some (24, false)), some (.int .i64)⟩,
  ⟨(some 27), .binI .rem .i64 (.t 26) (.c (.fz (.int .i64 10))), (some (24, false)), some (.int .i64)⟩,
  ⟨(some 28), .binI .neq .i64 (.t 27) (.c (.fz (.int .i64 0))), (some (24, false)), some .bool⟩,
  ⟨(some 29), .pick (.t 24) (.c (.fz (.bool true))) (.t 28), none, some .bool⟩,
  ⟨(some 2), .mov (.t 29), none, some .bool⟩])
 (.ret)
def A_num_Is : AFunc := ⟨1, [(.tmp 2, .fz)], .seq (.region [⟨(some 1), .box 2 true (.t 0), none, none⟩,
  ⟨(some 2), .mov (.c (.fz (.bool false))), none, some .bool⟩])
 (.seq (.seq (.region [⟨(some 3), .fadr 1 (.t 1), none, none⟩,
    ⟨(some 4), .load 1 false (.t 3), none, some (.int .i64)⟩,
    ⟨(some 5), .binI .lss .i64 (.t 4) (.c (.fz (.int .i64 0))), none, some .bool⟩,
    ⟨(some 6), .mov (.t 5), none, some .bool⟩,
    ⟨(some 7), .fadr 1 (.t 1), (some (6, false)), none⟩,
    ⟨(some 8), .load 1 false (.t 7), (some (6, false)), some (.int .i64)⟩,
    ⟨(some 9), .binI .gtr .i64 (.t 8) (.c (.fz (.int .i64 9))), (some (6, false)), some .bool⟩,
    ⟨(some 10), .pick (.t 6) (.c (.fz (.bool true))) (.t 9), none, some .bool⟩,
    ⟨(some 11), .mov (.t 10), none, some .bool⟩,
    ⟨(some 12), .fadr 0 (.t 1), (some (11, false)), none⟩,
    ⟨(some 13), .load 1 false (.t 12), (some (11, false)), some (.int .i64)⟩,
    ⟨(some 14), .binI .leq .i64 (.t 13) (.c (.fz (.int .i64 (-1000000000000000)))), (some (11, false)), some .bool⟩,
    ⟨(some 15), .pick (.t 11) (.c (.fz (.bool true))) (.t 14), none, some .bool⟩,
    ⟨(some 16), .mov (.t 15), none, some .bool⟩,
    ⟨(some 17), .fadr 0 (.t 1), (some (16, false)), none⟩,
    ⟨(some 18), .load 1 false (.t 17), (some (16, false)), some (.int .i64)⟩,
    ⟨(some 19), .binI .geq .i64 (.t 18) (.c (.fz (.int .i64 1000000000000000))), (some (16, false)), some .bool⟩,
    ⟨(some 20), .pick (.t 16) (.c (.fz (.bool true))) (.t 19), none, some .bool⟩])
   (.cond (.t 20) (.seq (.region [⟨(some 2), .mov (.c (.fz (.bool false))), none, some .bool⟩])
     (.ret))
    (.skip)))
  (.trim [1] A_num_Is_j1))⟩
def J_num_Is_1_0 (R : Orc) (k : Nat) (w : Bool) (h4096_0 : Int) (h4096_1 : Int) := execL R k w [] A_num_Is_j1 Ans ⟨[(1, .ptr 4096 0 0)], [(4095, .dead), (4096, .var 2 true (.fz (FV.ag [(FV.int .i64 h4096_0), (FV.int .i64 h4096_1)])))]⟩ (kFin R [(.tmp 2, .fz)] [])
theorem E_num_Is (R : Orc) (k : Nat) (w : Bool) (a0_0 : Int) (a0_1 : Int) : callL R k w A_num_Is [.fz (FV.ag [(FV.int .i64 a0_0), (FV.int .i64 a0_1)])] = ifB (decide (a0_1 < 0))
  (some ([.fz (FV.bool false)], []))
  (ifB (decide (a0_1 > 9))
   (some ([.fz (FV.bool false)], []))
   (ifB (decide (a0_0 ≤ (-1000000000000000)))
    (some ([.fz (FV.bool false)], []))
    (ifB (decide (a0_0 ≥ 1000000000000000))
     (some ([.fz (FV.bool false)], []))
     (jump w (J_num_Is_1_0 R k w a0_0 a0_1))))) := by kernel_rfl
theorem J_num_Is_1_0_eq (R : Orc) (k : Nat) (w : Bool) (h4096_0 : Int) (h4096_1 : Int) : J_num_Is_1_0 R k w h4096_0 h4096_1 = ifB (h4096_1 == 0)
  (some ([.fz (FV.bool true)], []))
  (some ([.fz (FV.bool ((Int.tmod h4096_0 10) != 0))], [])) := by kernel_rfl
/-! keyhole/utf.Valid -/
def A_utf_Valid_b1 : ACode := .seq (.seq (.region [⟨(some 4), .mov (.t 0), none, some .str⟩,
   ⟨(some 5), .binS .neq (.t 4) (.c (.fz (.str ⟨#[]⟩))), none, some .bool⟩])
  (.cond (.t 5) (.skip)
   (.exit 0)))
 (.block 1 (.seq (.region [⟨(some 6), .mov (.t 0), none, some .str⟩,
    ⟨(some 7), .call N_utf_size [((.t 6), .fz)] [.fz], none, some (.int .i64)⟩,
    ⟨(some 3), .mov (.t 7), none, some (.int .i64)⟩])
   (.seq (.seq (.region [⟨(some 8), .mov (.t 3), none, some (.int .i64)⟩,
      ⟨(some 9), .binI .eql .i64 (.t 8) (.c (.fz (.int .i64 0))), none, some .bool⟩])
     (.cond (.t 9) (.seq (.region [⟨(some 2), .mov (.c (.fz (.bool false))), none, some .bool⟩])
       (.ret))
      (.skip)))
    (.region [⟨(some 10), .mov (.t 0), none, some .str⟩,
     ⟨(some 11), .mov (.t 3), none, some (.int .i64)⟩,
     ⟨(some 12), .slice .str (.t 10) (some (.t 11)) none none, none, some .str⟩,
     ⟨(some 0), .mov (.t 12), none, some .str⟩]))))
def A_utf_Valid_s1 : ACode := .seq (.region [⟨(some 2), .mov (.c (.fz (.bool true))), none, some .bool⟩])
 (.ret)
def A_utf_Valid : AFunc := ⟨1, [(.tmp 2, .fz)], .seq (.region [⟨(some 2), .mov (.c (.fz (.bool false))), none, some .bool⟩])
 (.seq (.block 0 (.loop [0] [2] A_utf_Valid_b1))
  A_utf_Valid_s1)⟩
def K_utf_Valid_1 (R : Orc) (k : Nat) (w : Bool) : AExit → St → Option Ans := (kBlk 0 (kSeq R k w [] A_utf_Valid_s1 (kFin R [(.tmp 2, .fz)] [])))
def L_utf_Valid_1_0 (R : Orc) (k : Nat) (w : Bool) (n : Nat) (x0 : ByteArray) := loopL R k w [] [0] [2] A_utf_Valid_b1 n ⟨[(0, .fz (FV.str x0))], [(4095, .dead)]⟩
def X_utf_Valid_1_0 (x2 : Bool) : St := ⟨[(2, .fz (FV.bool x2))], [(4095, .dead)]⟩
def X_utf_Valid_1_1 : St := ⟨[], [(4095, .dead)]⟩
theorem E_utf_Valid (R : Orc) (k : Nat) (w : Bool) (a0 : ByteArray) : callL R k w A_utf_Valid [.fz (FV.str a0)] = onL (L_utf_Valid_1_0 R k w k a0) (K_utf_Valid_1 R k w) := by kernel_rfl
theorem L_utf_Valid_1_0_eq (R : Orc) (k : Nat) (w : Bool) (n : Nat) (x0 : ByteArray) : L_utf_Valid_1_0 R k w (n + 1) x0 = ifB (!(ByteArray.toList x0 == ByteArray.toList (⟨#[]⟩ : ByteArray)))
  (onR (R N_utf_size [.fz (FV.str x0)]) fun r0 => when (List.isEmpty r0.2 && allF [.fz] r0.1) (when (FV.isInt .i64 (TV.toF (List.getD r0.1 0 TV.em))) (ifB ((FV.toInt (TV.toF (List.getD r0.1 0 TV.em))) == 0)
   (some (.ret, X_utf_Valid_1_0 false))
   (when (decide (0 ≤ (ByteArray.size x0 : Int)) && decide ((ByteArray.size x0 : Int) ≤ (ByteArray.size x0 : Int))) (when (decide (0 ≤ (FV.toInt (TV.toF (List.getD r0.1 0 TV.em)))) && decide ((FV.toInt (TV.toF (List.getD r0.1 0 TV.em))) ≤ (ByteArray.size x0 : Int))) (L_utf_Valid_1_0 R k w n (ByteArray.extract x0 (Int.toNat (FV.toInt (TV.toF (List.getD r0.1 0 TV.em)))) (Int.toNat (ByteArray.size x0 : Int)))))))))
  (some ((.exit 0), X_utf_Valid_1_1)) := by kernel_rfl
theorem X_utf_Valid_1_0_eq (R : Orc) (k : Nat) (w : Bool) (x2 : Bool) : K_utf_Valid_1 R k w .ret (X_utf_Valid_1_0 x2) = some ([.fz (FV.bool x2)], []) := by kernel_rfl
theorem X_utf_Valid_1_1_eq (R : Orc) (k : Nat) (w : Bool) : K_utf_Valid_1 R k w (.exit 0) (X_utf_Valid_1_1) = some ([.fz (FV.bool true)], []) := by kernel_rfl
/-! keyhole/node.rising -/
def A_node_rising_b1 : ACode := .seq (.region [⟨(some 8), .binI .lss .i64 (.t 7) (.t 6), none, none⟩])
 (.seq (.cond (.t 8) (.skip)
   (.exit 0))
  (.seq (.block 1 (.seq (.region [⟨(some 9), .mov (.t 7), none, some (.int .i64)⟩,
      ⟨(some 10), .iadr (.sl 1 false) (.t 5) (.t 7), none, none⟩,
      ⟨(some 11), .load 1 false (.t 10), none, some .str⟩,
      ⟨(some 3), .mov (.t 9), none, some (.int .i64)⟩,
      ⟨(some 4), .mov (.t 11), none, some .str⟩])
     (.seq (.region [⟨(some 12), .mov (.t 4), none, some .str⟩,
       ⟨(some 13), .call N_utf_Valid [((.t 12), .fz)] [.fz], none, some .bool⟩,
       ⟨(some 14), .notB (.t 13), none, some .bool⟩,
       ⟨(some 15), .mov (.t 14), none, some .bool⟩,
       ⟨(some 16), .mov (.t 3), (some (15, false)), some (.int .i64)⟩,
       ⟨(some 17), .binI .gtr .i64 (.t 16) (.c (.fz (.int .i64 0))), (some (15, false)), some .bool⟩,
       ⟨(some 18), .mov (.t 17), (some (15, false)), some .bool⟩,
       ⟨(some 19), .mov (.t 4), (some (18, true)), some .str⟩,
       ⟨(some 20), .mov (.t 0), (some (18, true)), none⟩,
       ⟨(some 21), .mov (.t 3), (some (18, true)), some (.int .i64)⟩,
       ⟨(some 22), .binI .sub .i64 (.t 21) (.c (.fz (.int .i64 1))), (some (18, true)), some (.int .i64)⟩,
       ⟨(some 23), .iadr (.sl 1 false) (.t 20) (.t 22), (some (18, true)), none⟩,
       ⟨(some 24), .load 1 false (.t 23), (some (18, true)), some .str⟩,
       ⟨(some 25), .binS .leq (.t 19) (.t 24), (some (18, true)), some .bool⟩,
       ⟨(some 26), .pick (.t 18) (.t 25) (.c (.fz (.bool false))), (some (15, false)), some .bool⟩,
       ⟨(some 27), .pick (.t 15) (.c (.fz (.bool true))) (.t 26), none, some .bool⟩])
      (.cond (.t 27) (.seq (.region [⟨(some 2), .mov (.c (.fz (.bool false))), none, some .bool⟩])
        (.ret))
       (.skip)))))
   (.region [⟨(some 28), .binI .add .i64 (.t 7) (.c (.fz (.int .i64 1))), none, some (.int .i64)⟩,
    ⟨(some 7), .mov (.t 28), none, some (.int .i64)⟩])))
def A_node_rising_s1 : ACode := .seq (.region [⟨(some 2), .mov (.c (.fz (.bool true))), none, some .bool⟩])
 (.ret)
def A_node_rising : AFunc := ⟨1, [(.tmp 2, .fz)], .seq (.region [⟨(some 2), .mov (.c (.fz (.bool false))), none, some .bool⟩])
 (.seq (.seq (.region [⟨(some 5), .mov (.t 0), none, none⟩,
    ⟨(some 6), .len (.sl 1 false) (.t 5), none, some (.int .i64)⟩,
    ⟨(some 7), .mov (.c (.fz (.int .i64 0))), none, some (.int .i64)⟩])
   (.block 0 (.loop [0, 5, 6, 7] [2] A_node_rising_b1)))
  A_node_rising_s1)⟩
def K_node_rising_1 (R : Orc) (k : Nat) (w : Bool) : AExit → St → Option Ans := (kBlk 0 (kSeq R k w [] A_node_rising_s1 (kFin R [(.tmp 2, .fz)] [])))
def L_node_rising_1_0 (R : Orc) (k : Nat) (w : Bool) (n : Nat) (x0 : List FV) (x5 : List FV) (x6 : Int) (x7 : Int) := loopL R k w [] [0, 5, 6, 7] [2] A_node_rising_b1 n ⟨[(0, .fz (FV.sl x0)), (5, .fz (FV.sl x5)), (6, .fz (FV.int .i64 x6)), (7, .fz (FV.int .i64 x7))], [(4095, .dead)]⟩
def X_node_rising_1_0 (x2 : Bool) : St := ⟨[(2, .fz (FV.bool x2))], [(4095, .dead)]⟩
def X_node_rising_1_1 : St := ⟨[], [(4095, .dead)]⟩
theorem E_node_rising (R : Orc) (k : Nat) (w : Bool) (a0 : List FV) : callL R k w A_node_rising [.fz (FV.sl a0)] = onL (L_node_rising_1_0 R k w k a0 a0 (List.length a0 : Int) 0) (K_node_rising_1 R k w) := by kernel_rfl
theorem L_node_rising_1_0_eq (R : Orc) (k : Nat) (w : Bool) (n : Nat) (x0 : List FV) (x5 : List FV) (x6 : Int) (x7 : Int) : L_node_rising_1_0 R k w (n + 1) x0 x5 x6 x7 = ifB (decide (x7 < x6))
  (when ((decide (0 ≤ x7)) && (decide (x7 < (List.length x5 : Int)))) (when (FV.fits 1 false (List.getD x5 (Int.toNat x7) FV.nilp)) (when (FV.isStr (List.getD x5 (Int.toNat x7) FV.nilp)) (onR (R N_utf_Valid [.fz (FV.str (FV.toStr (List.getD x5 (Int.toNat x7) FV.nilp)))]) fun r0 => when (List.isEmpty r0.2 && allF [.fz] r0.1) (when (FV.isBool (TV.toF (List.getD r0.1 0 TV.em))) (ifB (!(FV.toBool (TV.toF (List.getD r0.1 0 TV.em))))
   (some (.ret, X_node_rising_1_0 false))
   (ifB (decide (x7 > 0))
    (when ((decide (0 ≤ (IntKind.wrap .i64 (x7 - 1)))) && (decide ((IntKind.wrap .i64 (x7 - 1)) < (List.length x0 : Int)))) (when (FV.fits 1 false (List.getD x0 (Int.toNat (IntKind.wrap .i64 (x7 - 1))) FV.nilp)) (when (FV.isStr (List.getD x0 (Int.toNat (IntKind.wrap .i64 (x7 - 1))) FV.nilp)) (ifB (Op.bytesLess (ByteArray.toList (FV.toStr (List.getD x5 (Int.toNat x7) FV.nilp))) (ByteArray.toList (FV.toStr (List.getD x0 (Int.toNat (IntKind.wrap .i64 (x7 - 1))) FV.nilp))) || ByteArray.toList (FV.toStr (List.getD x5 (Int.toNat x7) FV.nilp)) == ByteArray.toList (FV.toStr (List.getD x0 (Int.toNat (IntKind.wrap .i64 (x7 - 1))) FV.nilp)))
     (some (.ret, X_node_rising_1_0 false))
     (L_node_rising_1_0 R k w n x0 x5 x6 (IntKind.wrap .i64 (x7 + 1)))))))
    (L_node_rising_1_0 R k w n x0 x5 x6 (IntKind.wrap .i64 (x7 + 1))))))))))
  (some ((.exit 0), X_node_rising_1_1)) := by kernel_rfl
theorem X_node_rising_1_0_eq (R : Orc) (k : Nat) (w : Bool) (x2 : Bool) : K_node_rising_1 R k w .ret (X_node_rising_1_0 x2) = some ([.fz (FV.bool x2)], []) := by kernel_rfl
theorem X_node_rising_1_1_eq (R : Orc) (k : Nat) (w : Bool) : K_node_rising_1 R k w (.exit 0) (X_node_rising_1_1) = some ([.fz (FV.bool true)], []) := by kernel_rfl
/-! keyhole/node.join -/
def A_node_join_b1 : ACode := .seq (.region [⟨(some 12), .binI .lss .i64 (.t 11) (.t 10), none, none⟩])
 (.seq (.cond (.t 12) (.skip)
   (.exit 0))
  (.seq (.block 1 (.seq (.region [⟨(some 13), .iadr (.sl 1 false) (.t 9) (.t 11), none, none⟩,
      ⟨(some 14), .load 1 false (.t 13), none, some (.int .i64)⟩,
      ⟨(some 8), .mov (.t 14), none, some (.int .i64)⟩])
     (.region [⟨(some 15), .mov (.t 0), none, none⟩,
      ⟨(some 16), .mov (.t 1), none, some (.int .i64)⟩,
      ⟨(some 17), .mov (.t 8), none, some (.int .i64)⟩,
      ⟨(some 18), .call N_level_Lattice_Join [((.t 15), .fz), ((.t 16), .fz), ((.t 17), .fz)] [.fz], none, some (.int .i64)⟩,
      ⟨(some 1), .mov (.t 18), none, some (.int .i64)⟩])))
   (.region [⟨(some 19), .binI .add .i64 (.t 11) (.c (.fz (.int .i64 1))), none, some (.int .i64)⟩,
    ⟨(some 11), .mov (.t 19), none, some (.int .i64)⟩])))
def A_node_join_s1 : ACode := .seq (.region [⟨(some 20), .mov (.t 1), none, some (.int .i64)⟩,
  ⟨(some 6), .mov (.t 20), none, some (.int .i64)⟩])
 (.ret)
def A_node_join : AFunc := ⟨3, [(.tmp 6, .fz)], .seq (.region [⟨(some 6), .mov (.c (.fz (.int .i64 0))), none, some (.int .i64)⟩])
 (.seq (.seq (.region [⟨(some 9), .mov (.t 2), none, none⟩,
    ⟨(some 10), .len (.sl 1 false) (.t 9), none, some (.int .i64)⟩,
    ⟨(some 11), .mov (.c (.fz (.int .i64 0))), none, some (.int .i64)⟩])
   (.block 0 (.loop [0, 1, 9, 10, 11] [1] A_node_join_b1)))
  A_node_join_s1)⟩
def K_node_join_1 (R : Orc) (k : Nat) (w : Bool) : AExit → St → Option Ans := (kBlk 0 (kSeq R k w [] A_node_join_s1 (kFin R [(.tmp 6, .fz)] [])))
def L_node_join_1_0 (R : Orc) (k : Nat) (w : Bool) (n : Nat) (x0e : FV) (x1 : Int) (x9 : List FV) (x10 : Int) (x11 : Int) := loopL R k w [] [0, 1, 9, 10, 11] [1] A_node_join_b1 n ⟨[(0, .fz (FV.pt 195 true x0e 0)), (1, .fz (FV.int .i64 x1)), (9, .fz (FV.sl x9)), (10, .fz (FV.int .i64 x10)), (11, .fz (FV.int .i64 x11))], [(4095, .dead)]⟩
def X_node_join_1_0 (x1 : Int) : St := ⟨[(1, .fz (FV.int .i64 x1))], [(4095, .dead)]⟩
theorem E_node_join (R : Orc) (k : Nat) (w : Bool) (a0 : FV) (a1 : Int) (a2 : List FV) : callL R k w A_node_join [.fz (FV.pt 195 true a0 0), .fz (FV.int .i64 a1), .fz (FV.sl a2)] = onL (L_node_join_1_0 R k w k a0 a1 a2 (List.length a2 : Int) 0) (K_node_join_1 R k w) := by kernel_rfl
theorem L_node_join_1_0_eq (R : Orc) (k : Nat) (w : Bool) (n : Nat) (x0e : FV) (x1 : Int) (x9 : List FV) (x10 : Int) (x11 : Int) : L_node_join_1_0 R k w (n + 1) x0e x1 x9 x10 x11 = ifB (decide (x11 < x10))
  (when ((decide (0 ≤ x11)) && (decide (x11 < (List.length x9 : Int)))) (when (FV.fits 1 false (List.getD x9 (Int.toNat x11) FV.nilp)) (when (FV.isInt .i64 (List.getD x9 (Int.toNat x11) FV.nilp)) (onR (R N_level_Lattice_Join [.fz (FV.pt 195 true x0e 0), .fz (FV.int .i64 x1), .fz (FV.int .i64 (FV.toInt (List.getD x9 (Int.toNat x11) FV.nilp)))]) fun r0 => when (List.isEmpty r0.2 && allF [.fz] r0.1) (when (FV.isInt .i64 (TV.toF (List.getD r0.1 0 TV.em))) (L_node_join_1_0 R k w n x0e (FV.toInt (TV.toF (List.getD r0.1 0 TV.em))) x9 x10 (IntKind.wrap .i64 (x11 + 1))))))))
  (some ((.exit 0), X_node_join_1_0 x1)) := by kernel_rfl
theorem X_node_join_1_0_eq (R : Orc) (k : Nat) (w : Bool) (x1 : Int) : K_node_join_1 R k w (.exit 0) (X_node_join_1_0 x1) = some ([.fz (FV.int .i64 x1)], []) := by kernel_rfl
/-! keyhole/level.Name -/
def A_level_Name_j1 : ACode := .seq (.region [⟨(some 34), .mov (.t 5), none, some .bool⟩,
  ⟨(some 35), .notB (.t 34), none, some .bool⟩,
  ⟨(some 36), .mov (.t 35), none, some .bool⟩,
  ⟨(some 37), .mov (.t 6), (some (36, true)), some .bool⟩,
  ⟨(some 38), .notB (.t 37), (some (36, true)), some .bool⟩,
  ⟨(some 39), .mov (.t 38), (some (36, true)), some .bool⟩,
  ⟨(some 40), .mov (.t 3), (some (39, false)), some (.int .i64)⟩,
  ⟨(some 41), .binI .eql .i64 (.t 40) (.c (.fz (.int .i64 0))), (some (39, false)), some .bool⟩,
  ⟨(some 42), .pick (.t 39) (.c (.fz (.bool true))) (.t 41), (some (36, true)), some .bool⟩,
  ⟨(some 43), .pick (.t 36) (.t 42) (.c (.fz (.bool false))), none, some .bool⟩])
 (.cond (.t 43) (.seq (.region [⟨(some 2), .mov (.c (.fz (.bool false))), none, some .bool⟩])
   (.ret))
  (.skip))
def A_level_Name_j2 : ACode := .seq (.region [⟨(some 28), .mov (.t 4), none, some (.int .u8)⟩,
  ⟨(some 29), .binI .geq .u8 (.t 28) (.c (.fz (.int .u8 48))), none, some .bool⟩,
  ⟨(some 30), .mov (.t 29), none, some .bool⟩,
  ⟨(some 31), .mov (.t 4), (some (30, true)), some (.int .u8)⟩,
  ⟨(some 32), .binI .leq .u8 (.t 31) (.c (.fz (.int .u8 57))), (some (30, true)), some .bool⟩,
  ⟨(some 33), .pick (.t 30) (.t 32) (.c (.fz (.bool false))), none, some .bool⟩,
  ⟨(some 6), .mov (.t 33), none, some .bool⟩])
 (.trim [0, 3, 5, 6, 15, 16] A_level_Name_j1)
def A_level_Name_s3 : ACode := .region [⟨(some 44), .binI .add .i64 (.t 16) (.c (.fz (.int .i64 1))), none, some (.int .i64)⟩,
 ⟨(some 16), .mov (.t 44), none, some (.int .i64)⟩]
def A_level_Name_b1 : ACode := .seq (.region [⟨(some 17), .binI .lss .i64 (.t 16) (.t 15), none, some .bool⟩])
 (.seq (.cond (.t 17) (.skip)
   (.exit 0))
  (.seq (.block 1 (.seq (.region [⟨(some 18), .mov (.t 16), none, some (.int .i64)⟩,
      ⟨(some 3), .mov (.t 18), none, some (.int .i64)⟩])
     (.seq (.region [⟨(some 19), .mov (.t 0), none, some .str⟩,
       ⟨(some 20), .mov (.t 3), none, some (.int .i64)⟩,
       ⟨(some 21), .index .str (.t 19) (.t 20), none, some (.int .u8)⟩,
       ⟨(some 4), .mov (.t 21), none, some (.int .u8)⟩])
      (.seq (.region [⟨(some 22), .mov (.t 4), none, some (.int .u8)⟩,
        ⟨(some 23), .binI .geq .u8 (.t 22) (.c (.fz (.int .u8 97))), none, some .bool⟩,
        ⟨(some 24), .mov (.t 23), none, some .bool⟩,
        ⟨(some 25), .mov (.t 4), (some (24, true)), some (.int .u8)⟩,
        ⟨(some 26), .binI .leq .u8 (.t 25) (.c (.fz (.int .u8 122))), (some (24, true)), some .bool⟩,
        ⟨(some 27), .pick (.t 24) (.t 26) (.c (.fz (.bool false))), none, some .bool⟩,
        ⟨(some 5), .mov (.t 27), none, some .bool⟩])
       (.trim [0, 3, 4, 5, 15, 16] A_level_Name_j2)))))
   A_level_Name_s3))
def A_level_Name_s4 : ACode := .seq (.region [⟨(some 2), .mov (.c (.fz (.bool true))), none, some .bool⟩])
 (.ret)
def A_level_Name_j5 : ACode := .seq (.seq (.region [⟨(some 14), .mov (.t 0), none, some .str⟩,
   ⟨(some 15), .len .str (.t 14), none, some (.int .i64)⟩,
   ⟨(some 16), .mov (.c (.fz (.int .i64 0))), none, some (.int .i64)⟩])
  (.block 0 (.loop [0, 15, 16] [2] A_level_Name_b1)))
 A_level_Name_s4
def A_level_Name : AFunc := ⟨1, [(.tmp 2, .fz)], .seq (.region [⟨(some 2), .mov (.c (.fz (.bool false))), none, some .bool⟩])
 (.seq (.seq (.region [⟨(some 7), .mov (.t 0), none, some .str⟩,
    ⟨(some 8), .binS .eql (.t 7) (.c (.fz (.str ⟨#[]⟩))), none, some .bool⟩,
    ⟨(some 9), .mov (.t 8), none, some .bool⟩,
    ⟨(some 10), .mov (.t 0), (some (9, false)), some .str⟩,
    ⟨(some 11), .len .str (.t 10), (some (9, false)), some (.int .i64)⟩,
    ⟨(some 12), .binI .gtr .i64 (.t 11) (.c (.fz (.int .i64 16))), (some (9, false)), some .bool⟩,
    ⟨(some 13), .pick (.t 9) (.c (.fz (.bool true))) (.t 12), none, some .bool⟩])
   (.cond (.t 13) (.seq (.region [⟨(some 2), .mov (.c (.fz (.bool false))), none, some .bool⟩])
     (.ret))
    (.skip)))
  (.trim [0] A_level_Name_j5))⟩
def J_level_Name_5_0 (R : Orc) (k : Nat) (w : Bool) (x0 : ByteArray) := execL R k w [] A_level_Name_j5 Ans ⟨[(0, .fz (FV.str x0))], [(4095, .dead)]⟩ (kFin R [(.tmp 2, .fz)] [])
def K_level_Name_1 (R : Orc) (k : Nat) (w : Bool) : AExit → St → Option Ans := (kBlk 0 (kSeq R k w [] A_level_Name_s4 (kFin R [(.tmp 2, .fz)] [])))
def L_level_Name_1_0 (R : Orc) (k : Nat) (w : Bool) (n : Nat) (x0 : ByteArray) (x15 : Int) (x16 : Int) := loopL R k w [] [0, 15, 16] [2] A_level_Name_b1 n ⟨[(0, .fz (FV.str x0)), (15, .fz (FV.int .i64 x15)), (16, .fz (FV.int .i64 x16))], [(4095, .dead)]⟩
def J_level_Name_2_0 (R : Orc) (k : Nat) (w : Bool) (n : Nat) (x0 : ByteArray) (x3 : Int) (x4 : Int) (x5 : Bool) (x15 : Int) (x16 : Int) := execL R k w [] A_level_Name_j2 (AExit × St) ⟨[(0, .fz (FV.str x0)), (3, .fz (FV.int .i64 x3)), (4, .fz (FV.int .u8 x4)), (5, .fz (FV.bool x5)), (15, .fz (FV.int .i64 x15)), (16, .fz (FV.int .i64 x16))], [(4095, .dead)]⟩ (kBlk 1 (kSeq R k w [] A_level_Name_s3 (kLoop R k w [] [0, 15, 16] [2] A_level_Name_b1 n)))
def X_level_Name_1_0 : St := ⟨[], [(4095, .dead)]⟩
def J_level_Name_1_0 (R : Orc) (k : Nat) (w : Bool) (n : Nat) (x0 : ByteArray) (x3 : Int) (x5 : Bool) (x6 : Bool) (x15 : Int) (x16 : Int) := execL R k w [] A_level_Name_j1 (AExit × St) ⟨[(0, .fz (FV.str x0)), (3, .fz (FV.int .i64 x3)), (5, .fz (FV.bool x5)), (6, .fz (FV.bool x6)), (15, .fz (FV.int .i64 x15)), (16, .fz (FV.int .i64 x16))], [(4095, .dead)]⟩ (kBlk 1 (kSeq R k w [] A_level_Name_s3 (kLoop R k w [] [0, 15, 16] [2] A_level_Name_b1 n)))
def X_level_Name_1_1 (x2 : Bool) : St := ⟨[(2, .fz (FV.bool x2))], [(4095, .dead)]⟩
theorem E_level_Name (R : Orc) (k : Nat) (w : Bool) (a0 : ByteArray) : callL R k w A_level_Name [.fz (FV.str a0)] = ifB (ByteArray.toList a0 == ByteArray.toList (⟨#[]⟩ : ByteArray))
  (some ([.fz (FV.bool false)], []))
  (ifB (decide ((ByteArray.size a0 : Int) > 16))
   (some ([.fz (FV.bool false)], []))
   (jump w (J_level_Name_5_0 R k w a0))) := by kernel_rfl
theorem J_level_Name_5_0_eq (R : Orc) (k : Nat) (w : Bool) (x0 : ByteArray) : J_level_Name_5_0 R k w x0 = onL (L_level_Name_1_0 R k w k x0 (ByteArray.size x0 : Int) 0) (K_level_Name_1 R k w) := by kernel_rfl
theorem L_level_Name_1_0_eq (R : Orc) (k : Nat) (w : Bool) (n : Nat) (x0 : ByteArray) (x15 : Int) (x16 : Int) : L_level_Name_1_0 R k w (n + 1) x0 x15 x16 = ifB (decide (x16 < x15))
  (when ((decide (0 ≤ x16)) && (decide (x16 < (ByteArray.size x0 : Int)))) (ifB (decide ((((Array.getD (ByteArray.data x0) (Int.toNat x16) 0).toNat : Nat) : Int) ≥ 97))
   (jump w (J_level_Name_2_0 R k w n x0 x16 (((Array.getD (ByteArray.data x0) (Int.toNat x16) 0).toNat : Nat) : Int) (decide ((((Array.getD (ByteArray.data x0) (Int.toNat x16) 0).toNat : Nat) : Int) ≤ 122)) x15 x16))
   (jump w (J_level_Name_2_0 R k w n x0 x16 (((Array.getD (ByteArray.data x0) (Int.toNat x16) 0).toNat : Nat) : Int) false x15 x16))))
  (some ((.exit 0), X_level_Name_1_0)) := by kernel_rfl
theorem J_level_Name_2_0_eq (R : Orc) (k : Nat) (w : Bool) (n : Nat) (x0 : ByteArray) (x3 : Int) (x4 : Int) (x5 : Bool) (x15 : Int) (x16 : Int) : J_level_Name_2_0 R k w n x0 x3 x4 x5 x15 x16 = ifB (decide (x4 ≥ 48))
  (jump w (J_level_Name_1_0 R k w n x0 x3 x5 (decide (x4 ≤ 57)) x15 x16))
  (jump w (J_level_Name_1_0 R k w n x0 x3 x5 false x15 x16)) := by kernel_rfl
theorem X_level_Name_1_0_eq (R : Orc) (k : Nat) (w : Bool) : K_level_Name_1 R k w (.exit 0) (X_level_Name_1_0) = some ([.fz (FV.bool true)], []) := by kernel_rfl
theorem J_level_Name_1_0_eq (R : Orc) (k : Nat) (w : Bool) (n : Nat) (x0 : ByteArray) (x3 : Int) (x5 : Bool) (x6 : Bool) (x15 : Int) (x16 : Int) : J_level_Name_1_0 R k w n x0 x3 x5 x6 x15 x16 = ifB (!x5)
  (ifB (!x6)
   (some (.ret, X_level_Name_1_1 false))
   (ifB (x3 == 0)
    (some (.ret, X_level_Name_1_1 false))
    (L_level_Name_1_0 R k w n x0 x15 (IntKind.wrap .i64 (x16 + 1)))))
  (L_level_Name_1_0 R k w n x0 x15 (IntKind.wrap .i64 (x16 + 1))) := by kernel_rfl
theorem X_level_Name_1_1_eq (R : Orc) (k : Nat) (w : Bool) (x2 : Bool) : K_level_Name_1 R k w .ret (X_level_Name_1_1 x2) = some ([.fz (FV.bool x2)], []) := by kernel_rfl
/-! keyhole/level.turned -/
def A_level_turned_b1 : ACode := .seq (.region [⟨(some 10), .binI .lss .i64 (.t 9) (.c (.fz (.int .i64 8))), none, some .bool⟩])
 (.seq (.cond (.t 10) (.skip)
   (.exit 2))
  (.seq (.block 3 (.seq (.region [⟨(some 11), .mov (.t 9), none, some (.int .i64)⟩,
      ⟨(some 5), .mov (.t 11), none, some (.int .i64)⟩])
     (.draws [⟨⟨(some 12), .mov (.t 5), none, some (.int .i64)⟩, []⟩,
      ⟨⟨(some 13), .mov (.t 4), none, some (.int .i64)⟩, []⟩,
      ⟨⟨(some 14), .mov (.t 4), none, some (.int .i64)⟩, []⟩,
      ⟨⟨(some 15), .mov (.t 5), none, some (.int .i64)⟩, []⟩,
      ⟨⟨(some 16), .iadr (.arr 8 8 true) (.t 1) (.t 14), none, none⟩, [2]⟩,
      ⟨⟨(some 17), .iadr (.arr 8 1 false) (.t 16) (.t 15), none, none⟩, [4, 3]⟩,
      ⟨⟨(some 18), .load 1 false (.t 17), none, some .bool⟩, [5]⟩,
      ⟨⟨(some 19), .iadr (.arr 8 8 true) (.t 3) (.t 12), none, none⟩, [0]⟩,
      ⟨⟨(some 20), .iadr (.arr 8 1 false) (.t 19) (.t 13), none, none⟩, [7, 1, 0, 1, 2, 3, 4, 5, 6]⟩,
      ⟨⟨none, .store 1 false (.t 20) (.t 18), none, none⟩, [8, 6, 0, 1, 2, 3, 4, 5, 6]⟩])))
   (.region [⟨(some 21), .binI .add .i64 (.t 9) (.c (.fz (.int .i64 1))), none, some (.int .i64)⟩,
    ⟨(some 9), .mov (.t 21), none, some (.int .i64)⟩])))
def A_level_turned_s1 : ACode := .region [⟨(some 22), .binI .add .i64 (.t 6) (.c (.fz (.int .i64 1))), none, some (.int .i64)⟩,
 ⟨(some 6), .mov (.t 22), none, some (.int .i64)⟩]
def A_level_turned_b2 : ACode := .seq (.region [⟨(some 7), .binI .lss .i64 (.t 6) (.c (.fz (.int .i64 8))), none, some .bool⟩])
 (.seq (.cond (.t 7) (.skip)
   (.exit 0))
  (.seq (.block 1 (.seq (.region [⟨(some 8), .mov (.t 6), none, some (.int .i64)⟩,
      ⟨(some 4), .mov (.t 8), none, some (.int .i64)⟩])
     (.seq (.region [⟨(some 9), .mov (.c (.fz (.int .i64 0))), none, some (.int .i64)⟩])
      (.block 2 (.loop [1, 2, 3, 4, 6, 9] [1, 2, 3, 6] A_level_turned_b1)))))
   A_level_turned_s1))
def A_level_turned_s2 : ACode := .seq (.region [⟨(some 23), .load 64 true (.t 3), none, none⟩,
  ⟨none, .store 64 true (.t 2) (.t 23), none, none⟩])
 (.ret)
def A_level_turned : AFunc := ⟨1, [(.cell 2 64 true, .fz)], .seq (.region [⟨(some 1), .box 64 true (.t 0), none, none⟩,
  ⟨(some 2), .alloc 64 true (.fz (.ag [.bool false, .bool false, .bool false, .bool false, .bool false, .bool false, .bool false, .bool false, .bool false, .bool false, .bool false, .bool false, .bool false, .bool false, .bool false, .bool false, .bool false, .bool false, .bool false, .bool false, .bool false, .bool false, .bool false, .bool false, .bool false, .bool false, .bool false, .bool false, .bool false, .bool false, .bool false, .bool false, .bool false, .bool false, .bool false, .bool false, .bool false, .bool false, .bool false, .bool false, .bool false, .bool false, .bool false, .bool false, .bool false, .bool false, .bool false, .bool false, .bool false, .bool false, .bool false, .bool false, .bool false, .bool false, .bool false, .bool false, .bool false, .bool false, .bool false, .bool false, .bool false, .bool false, .bool false, .bool false])), none, none⟩])
 (.seq (.region [⟨(some 3), .alloc 64 true (.fz (.ag [.bool false, .bool false, .bool false, .bool false, .bool false, .bool false, .bool false, .bool false, .bool false, .bool false, .bool false, .bool false, .bool false, .bool false, .bool false, .bool false, .bool false, .bool false, .bool false, .bool false, .bool false, .bool false, .bool false, .bool false, .bool false, .bool false, .bool false, .bool false, .bool false, .bool false, .bool false, .bool false, .bool false, .bool false, .bool false, .bool false, .bool false, .bool false, .bool false, .bool false, .bool false, .bool false, .bool false, .bool false, .bool false, .bool false, .bool false, .bool false, .bool false, .bool false, .bool false, .bool false, .bool false, .bool false, .bool false, .bool false, .bool false, .bool false, .bool false, .bool false, .bool false, .bool false, .bool false, .bool false])), none, none⟩])
  (.seq (.seq (.region [⟨(some 6), .mov (.c (.fz (.int .i64 0))), none, some (.int .i64)⟩])
    (.block 0 (.loop [1, 2, 3, 6] [2, 3] A_level_turned_b2)))
   A_level_turned_s2))⟩
def K_level_turned_2 (R : Orc) (k : Nat) (w : Bool) : AExit → St → Option Ans := (kBlk 0 (kSeq R k w [] A_level_turned_s2 (kFin R [(.cell 2 64 true, .fz)] [])))
def L_level_turned_2_0 (R : Orc) (k : Nat) (w : Bool) (n : Nat) (x6 : Int) (h4096 : FV) (h4097 : FV) (h4098 : FV) := loopL R k w [] [1, 2, 3, 6] [2, 3] A_level_turned_b2 n ⟨[(1, .ptr 4096 0 0), (2, .ptr 4097 0 0), (3, .ptr 4098 0 0), (6, .fz (FV.int .i64 x6))], [(4095, .dead), (4096, .var 64 true (.fz h4096)), (4097, .var 64 true (.fz h4097)), (4098, .var 64 true (.fz h4098))]⟩
def K_level_turned_1 (R : Orc) (k : Nat) (w : Bool) (n : Nat) : AExit → St → Option (AExit × St) := (kBlk 2 (kBlk 1 (kSeq R k w [] A_level_turned_s1 (kLoop R k w [] [1, 2, 3, 6] [2, 3] A_level_turned_b2 n))))
def L_level_turned_1_0 (R : Orc) (k : Nat) (w : Bool) (n : Nat) (x4 : Int) (x6 : Int) (x9 : Int) (h4096 : FV) (h4097 : FV) (h4098 : FV) := loopL R k w [] [1, 2, 3, 4, 6, 9] [1, 2, 3, 6] A_level_turned_b1 n ⟨[(1, .ptr 4096 0 0), (2, .ptr 4097 0 0), (3, .ptr 4098 0 0), (4, .fz (FV.int .i64 x4)), (6, .fz (FV.int .i64 x6)), (9, .fz (FV.int .i64 x9))], [(4095, .dead), (4096, .var 64 true (.fz h4096)), (4097, .var 64 true (.fz h4097)), (4098, .var 64 true (.fz h4098))]⟩
def X_level_turned_2_0 (h4096 : FV) (h4097 : FV) : St := ⟨[(2, .ptr 4096 0 0), (3, .ptr 4097 0 0)], [(4095, .dead), (4096, .var 64 true (.fz h4096)), (4097, .var 64 true (.fz h4097))]⟩
def X_level_turned_1_0 (x6 : Int) (h4096 : FV) (h4097 : FV) (h4098 : FV) : St := ⟨[(1, .ptr 4096 0 0), (2, .ptr 4097 0 0), (3, .ptr 4098 0 0), (6, .fz (FV.int .i64 x6))], [(4095, .dead), (4096, .var 64 true (.fz h4096)), (4097, .var 64 true (.fz h4097)), (4098, .var 64 true (.fz h4098))]⟩
theorem E_level_turned (R : Orc) (k : Nat) (w : Bool) (a0 : FV) : callL R k w A_level_turned [.fz a0] = when (FV.fits 64 true a0) (onL (L_level_turned_2_0 R k w k 0 a0 (FV.ag [(FV.bool false), (FV.bool false), (FV.bool false), (FV.bool false), (FV.bool false), (FV.bool false), (FV.bool false), (FV.bool false), (FV.bool false), (FV.bool false), (FV.bool false), (FV.bool false), (FV.bool false), (FV.bool false), (FV.bool false), (FV.bool false), (FV.bool false), (FV.bool false), (FV.bool false), (FV.bool false), (FV.bool false), (FV.bool false), (FV.bool false), (FV.bool false), (FV.bool false), (FV.bool false), (FV.bool false), (FV.bool false), (FV.bool false), (FV.bool false), (FV.bool false), (FV.bool false), (FV.bool false), (FV.bool false), (FV.bool false), (FV.bool false), (FV.bool false), (FV.bool false), (FV.bool false), (FV.bool false), (FV.bool false), (FV.bool false), (FV.bool false), (FV.bool false), (FV.bool false), (FV.bool false), (FV.bool false), (FV.bool false), (FV.bool false), (FV.bool false), (FV.bool false), (FV.bool false), (FV.bool false), (FV.bool false), (FV.bool false), (FV.bool false), (FV.bool false), (FV.bool false), (FV.bool false), (FV.bool false), (FV.bool false), (FV.bool false), (FV.bool false), (FV.bool false)]) (FV.ag [(FV.bool false), (FV.bool false), (FV.bool false), (FV.bool false), (FV.bool false), (FV.bool false), (FV.bool false), (FV.bool false), (FV.bool false), (FV.bool false), (FV.bool false), (FV.bool false), (FV.bool false), (FV.bool false), (FV.bool false), (FV.bool false), (FV.bool false), (FV.bool false), (FV.bool false), (FV.bool false), (FV.bool false), (FV.bool false), (FV.bool false), (FV.bool false), (FV.bool false), (FV.bool false), (FV.bool false), (FV.bool false), (FV.bool false), (FV.bool false), (FV.bool false), (FV.bool false), (FV.bool false), (FV.bool false), (FV.bool false), (FV.bool false), (FV.bool false), (FV.bool false), (FV.bool false), (FV.bool false), (FV.bool false), (FV.bool false), (FV.bool false), (FV.bool false), (FV.bool false), (FV.bool false), (FV.bool false), (FV.bool false), (FV.bool false), (FV.bool false), (FV.bool false), (FV.bool false), (FV.bool false), (FV.bool false), (FV.bool false), (FV.bool false), (FV.bool false), (FV.bool false), (FV.bool false), (FV.bool false), (FV.bool false), (FV.bool false), (FV.bool false), (FV.bool false)])) (K_level_turned_2 R k w)) := by kernel_rfl
theorem L_level_turned_2_0_eq (R : Orc) (k : Nat) (w : Bool) (n : Nat) (x6 : Int) (h4096 : FV) (h4097 : FV) (h4098 : FV) : L_level_turned_2_0 R k w (n + 1) x6 h4096 h4097 h4098 = ifB (decide (x6 < 8))
  (onL (L_level_turned_1_0 R k w k x6 x6 0 h4096 h4097 h4098) (K_level_turned_1 R k w n))
  (some ((.exit 0), X_level_turned_2_0 h4097 h4098)) := by kernel_rfl
theorem L_level_turned_1_0_eq (R : Orc) (k : Nat) (w : Bool) (n : Nat) (x4 : Int) (x6 : Int) (x9 : Int) (h4096 : FV) (h4097 : FV) (h4098 : FV) : L_level_turned_1_0 R k w (n + 1) x4 x6 x9 h4096 h4097 h4098 = ifB (decide (x9 < 8))
  (when (decide (0 ≤ x4) && decide (x4 < 8)) (when (decide (0 ≤ x9) && decide (x9 < 8)) (when (FV.isAg 64 h4096) (when (Nat.blt ((0 + ((Int.toNat x4) * 8)) + ((Int.toNat x9) * 1)) 64) (when (FV.isBool (FV.cell h4096 ((0 + ((Int.toNat x4) * 8)) + ((Int.toNat x9) * 1)))) (when (decide (0 ≤ x9) && decide (x9 < 8)) (when (decide (0 ≤ x4) && decide (x4 < 8)) (when ((FV.isAg 64 h4098) && true) (when (Nat.blt ((0 + ((Int.toNat x9) * 8)) + ((Int.toNat x4) * 1)) 64) (L_level_turned_1_0 R k w n x4 x6 (IntKind.wrap .i64 (x9 + 1)) h4096 h4097 (FV.ag (List.set (FV.toAg h4098) ((0 + ((Int.toNat x9) * 8)) + ((Int.toNat x4) * 1)) (FV.bool (FV.toBool (FV.cell h4096 ((0 + ((Int.toNat x4) * 8)) + ((Int.toNat x9) * 1)))))))))))))))))
  (some ((.exit 2), X_level_turned_1_0 x6 h4096 h4097 h4098)) := by kernel_rfl
theorem X_level_turned_2_0_eq (R : Orc) (k : Nat) (w : Bool) (h4096 : FV) (h4097 : FV) : K_level_turned_2 R k w (.exit 0) (X_level_turned_2_0 h4096 h4097) = when (FV.fits 64 true h4097) (some ([.fz h4097], [])) := by kernel_rfl
theorem X_level_turned_1_0_eq (R : Orc) (k : Nat) (w : Bool) (n : Nat) (x6 : Int) (h4096 : FV) (h4097 : FV) (h4098 : FV) : K_level_turned_1 R k w n (.exit 2) (X_level_turned_1_0 x6 h4096 h4097 h4098) = L_level_turned_2_0 R k w n (IntKind.wrap .i64 (x6 + 1)) h4096 h4097 h4098 := by kernel_rfl
/-! keyhole/level.over -/
def A_level_over_b1 : ACode := .seq (.region [⟨(some 32), .binI .lss .i64 (.t 31) (.t 30), none, some .bool⟩])
 (.seq (.cond (.t 32) (.skip)
   (.exit 2))
  (.seq (.block 3 (.seq (.region [⟨(some 33), .mov (.t 31), none, some (.int .i64)⟩,
      ⟨(some 11), .mov (.t 33), none, some (.int .i64)⟩])
     (.region [⟨(some 34), .mov (.t 10), none, some .bool⟩,
      ⟨(some 35), .mov (.t 34), none, some .bool⟩,
      ⟨(some 36), .mov (.t 2), (some (35, true)), some (.int .i64)⟩,
      ⟨(some 37), .mov (.t 11), (some (35, true)), some (.int .i64)⟩,
      ⟨(some 38), .iadr (.arr 8 8 true) (.t 4) (.t 36), (some (35, true)), none⟩,
      ⟨(some 39), .iadr (.arr 8 1 false) (.t 38) (.t 37), (some (35, true)), none⟩,
      ⟨(some 40), .load 1 false (.t 39), (some (35, true)), some .bool⟩,
      ⟨(some 41), .notB (.t 40), (some (35, true)), some .bool⟩,
      ⟨(some 42), .mov (.t 41), (some (35, true)), some .bool⟩,
      ⟨(some 43), .mov (.t 3), (some (42, false)), some (.int .i64)⟩,
      ⟨(some 44), .mov (.t 11), (some (42, false)), some (.int .i64)⟩,
      ⟨(some 45), .iadr (.arr 8 8 true) (.t 4) (.t 43), (some (42, false)), none⟩,
      ⟨(some 46), .iadr (.arr 8 1 false) (.t 45) (.t 44), (some (42, false)), none⟩,
      ⟨(some 47), .load 1 false (.t 46), (some (42, false)), some .bool⟩,
      ⟨(some 48), .notB (.t 47), (some (42, false)), some .bool⟩,
      ⟨(some 49), .pick (.t 42) (.c (.fz (.bool true))) (.t 48), (some (35, true)), some .bool⟩,
      ⟨(some 50), .mov (.t 49), (some (35, true)), some .bool⟩,
      ⟨(some 51), .mov (.t 9), (some (50, false)), some (.int .i64)⟩,
      ⟨(some 52), .mov (.t 11), (some (50, false)), some (.int .i64)⟩,
      ⟨(some 53), .iadr (.arr 8 8 true) (.t 4) (.t 51), (some (50, false)), none⟩,
      ⟨(some 54), .iadr (.arr 8 1 false) (.t 53) (.t 52), (some (50, false)), none⟩,
      ⟨(some 55), .load 1 false (.t 54), (some (50, false)), some .bool⟩,
      ⟨(some 56), .pick (.t 50) (.c (.fz (.bool true))) (.t 55), (some (35, true)), some .bool⟩,
      ⟨(some 57), .pick (.t 35) (.t 56) (.c (.fz (.bool false))), none, some .bool⟩,
      ⟨(some 10), .mov (.t 57), none, some .bool⟩])))
   (.region [⟨(some 58), .binI .add .i64 (.t 31) (.c (.fz (.int .i64 1))), none, some (.int .i64)⟩,
    ⟨(some 31), .mov (.t 58), none, some (.int .i64)⟩])))
def A_level_over_s1 : ACode := .seq (.region [⟨(some 59), .mov (.t 10), none, some .bool⟩])
 (.cond (.t 59) (.seq (.region [⟨(some 60), .mov (.t 9), none, some (.int .i64)⟩,
    ⟨(some 8), .mov (.t 60), none, some (.int .i64)⟩])
   (.ret))
  (.skip))
def A_level_over_j2 : ACode := .seq (.region [⟨(some 10), .mov (.c (.fz (.bool true))), none, some .bool⟩])
 (.seq (.seq (.region [⟨(some 30), .mov (.t 1), none, some (.int .i64)⟩,
    ⟨(some 31), .mov (.c (.fz (.int .i64 0))), none, some (.int .i64)⟩])
   (.block 2 (.loop [1, 2, 3, 4, 9, 10, 12, 13, 30, 31] [1, 2, 3, 4, 9, 10, 12, 13] A_level_over_b1)))
  A_level_over_s1)
def A_level_over_s3 : ACode := .region [⟨(some 61), .binI .add .i64 (.t 13) (.c (.fz (.int .i64 1))), none, some (.int .i64)⟩,
 ⟨(some 13), .mov (.t 61), none, some (.int .i64)⟩]
def A_level_over_b2 : ACode := .seq (.region [⟨(some 14), .binI .lss .i64 (.t 13) (.t 12), none, some .bool⟩])
 (.seq (.cond (.t 14) (.skip)
   (.exit 0))
  (.seq (.block 1 (.seq (.region [⟨(some 15), .mov (.t 13), none, some (.int .i64)⟩,
      ⟨(some 9), .mov (.t 15), none, some (.int .i64)⟩])
     (.seq (.seq (.region [⟨(some 16), .mov (.t 2), none, some (.int .i64)⟩,
        ⟨(some 17), .mov (.t 9), none, some (.int .i64)⟩,
        ⟨(some 18), .iadr (.arr 8 8 true) (.t 4) (.t 16), none, none⟩,
        ⟨(some 19), .iadr (.arr 8 1 false) (.t 18) (.t 17), none, none⟩,
        ⟨(some 20), .load 1 false (.t 19), none, some .bool⟩,
        ⟨(some 21), .notB (.t 20), none, some .bool⟩,
        ⟨(some 22), .mov (.t 21), none, some .bool⟩,
        ⟨(some 23), .mov (.t 3), (some (22, false)), some (.int .i64)⟩,
        ⟨(some 24), .mov (.t 9), (some (22, false)), some (.int .i64)⟩,
        ⟨(some 25), .iadr (.arr 8 8 true) (.t 4) (.t 23), (some (22, false)), none⟩,
        ⟨(some 26), .iadr (.arr 8 1 false) (.t 25) (.t 24), (some (22, false)), none⟩,
        ⟨(some 27), .load 1 false (.t 26), (some (22, false)), some .bool⟩,
        ⟨(some 28), .notB (.t 27), (some (22, false)), some .bool⟩,
        ⟨(some 29), .pick (.t 22) (.c (.fz (.bool true))) (.t 28), none, some .bool⟩])
       (.cond (.t 29) (.exit 1)
        (.skip)))
      (.trim [1, 2, 3, 4, 9, 12, 13] A_level_over_j2))))
   A_level_over_s3))
def A_level_over_s4 : ACode := .seq (.region [⟨(some 8), .mov (.c (.fz (.int .i64 (-1)))), none, some (.int .i64)⟩])
 (.ret)
def A_level_over : AFunc := ⟨4, [(.tmp 8, .fz)], .seq (.region [⟨(some 4), .box 64 true (.t 0), none, none⟩,
  ⟨(some 8), .mov (.c (.fz (.int .i64 0))), none, some (.int .i64)⟩])
 (.seq (.seq (.region [⟨(some 12), .mov (.t 1), none, some (.int .i64)⟩,
    ⟨(some 13), .mov (.c (.fz (.int .i64 0))), none, some (.int .i64)⟩])
   (.block 0 (.loop [1, 2, 3, 4, 12, 13] [8] A_level_over_b2)))
  A_level_over_s4)⟩
def K_level_over_2 (R : Orc) (k : Nat) (w : Bool) : AExit → St → Option Ans := (kBlk 0 (kSeq R k w [] A_level_over_s4 (kFin R [(.tmp 8, .fz)] [])))
def L_level_over_2_0 (R : Orc) (k : Nat) (w : Bool) (n : Nat) (x1 : Int) (x2 : Int) (x3 : Int) (x12 : Int) (x13 : Int) (h4096 : FV) := loopL R k w [] [1, 2, 3, 4, 12, 13] [8] A_level_over_b2 n ⟨[(1, .fz (FV.int .i64 x1)), (2, .fz (FV.int .i64 x2)), (3, .fz (FV.int .i64 x3)), (4, .ptr 4096 0 0), (12, .fz (FV.int .i64 x12)), (13, .fz (FV.int .i64 x13))], [(4095, .dead), (4096, .var 64 true (.fz h4096))]⟩
def J_level_over_2_0 (R : Orc) (k : Nat) (w : Bool) (n : Nat) (x1 : Int) (x2 : Int) (x3 : Int) (x9 : Int) (x12 : Int) (x13 : Int) (h4096 : FV) := execL R k w [] A_level_over_j2 (AExit × St) ⟨[(1, .fz (FV.int .i64 x1)), (2, .fz (FV.int .i64 x2)), (3, .fz (FV.int .i64 x3)), (4, .ptr 4096 0 0), (9, .fz (FV.int .i64 x9)), (12, .fz (FV.int .i64 x12)), (13, .fz (FV.int .i64 x13))], [(4095, .dead), (4096, .var 64 true (.fz h4096))]⟩ (kBlk 1 (kSeq R k w [] A_level_over_s3 (kLoop R k w [] [1, 2, 3, 4, 12, 13] [8] A_level_over_b2 n)))
def X_level_over_2_0 : St := ⟨[], [(4095, .dead)]⟩
def K_level_over_1 (R : Orc) (k : Nat) (w : Bool) (n : Nat) : AExit → St → Option (AExit × St) := (kBlk 2 (kSeq R k w [] A_level_over_s1 (kBlk 1 (kSeq R k w [] A_level_over_s3 (kLoop R k w [] [1, 2, 3, 4, 12, 13] [8] A_level_over_b2 n)))))
def L_level_over_1_0 (R : Orc) (k : Nat) (w : Bool) (n : Nat) (x1 : Int) (x2 : Int) (x3 : Int) (x9 : Int) (x10 : Bool) (x12 : Int) (x13 : Int) (x30 : Int) (x31 : Int) (h4096 : FV) := loopL R k w [] [1, 2, 3, 4, 9, 10, 12, 13, 30, 31] [1, 2, 3, 4, 9, 10, 12, 13] A_level_over_b1 n ⟨[(1, .fz (FV.int .i64 x1)), (2, .fz (FV.int .i64 x2)), (3, .fz (FV.int .i64 x3)), (4, .ptr 4096 0 0), (9, .fz (FV.int .i64 x9)), (10, .fz (FV.bool x10)), (12, .fz (FV.int .i64 x12)), (13, .fz (FV.int .i64 x13)), (30, .fz (FV.int .i64 x30)), (31, .fz (FV.int .i64 x31))], [(4095, .dead), (4096, .var 64 true (.fz h4096))]⟩
def X_level_over_1_0 (x1 : Int) (x2 : Int) (x3 : Int) (x9 : Int) (x10 : Bool) (x12 : Int) (x13 : Int) (h4096 : FV) : St := ⟨[(1, .fz (FV.int .i64 x1)), (2, .fz (FV.int .i64 x2)), (3, .fz (FV.int .i64 x3)), (4, .ptr 4096 0 0), (9, .fz (FV.int .i64 x9)), (10, .fz (FV.bool x10)), (12, .fz (FV.int .i64 x12)), (13, .fz (FV.int .i64 x13))], [(4095, .dead), (4096, .var 64 true (.fz h4096))]⟩
def X_level_over_2_1 (x8 : Int) : St := ⟨[(8, .fz (FV.int .i64 x8))], [(4095, .dead)]⟩
theorem E_level_over (R : Orc) (k : Nat) (w : Bool) (a0 : FV) (a1 : Int) (a2 : Int) (a3 : Int) : callL R k w A_level_over [.fz a0, .fz (FV.int .i64 a1), .fz (FV.int .i64 a2), .fz (FV.int .i64 a3)] = when (FV.fits 64 true a0) (onL (L_level_over_2_0 R k w k a1 a2 a3 a1 0 a0) (K_level_over_2 R k w)) := by kernel_rfl
theorem L_level_over_2_0_eq (R : Orc) (k : Nat) (w : Bool) (n : Nat) (x1 : Int) (x2 : Int) (x3 : Int) (x12 : Int) (x13 : Int) (h4096 : FV) : L_level_over_2_0 R k w (n + 1) x1 x2 x3 x12 x13 h4096 = ifB (decide (x13 < x12))
  (when (decide (0 ≤ x2) && decide (x2 < 8)) (when (decide (0 ≤ x13) && decide (x13 < 8)) (when (FV.isAg 64 h4096) (when (Nat.blt ((0 + ((Int.toNat x2) * 8)) + ((Int.toNat x13) * 1)) 64) (when (FV.isBool (FV.cell h4096 ((0 + ((Int.toNat x2) * 8)) + ((Int.toNat x13) * 1)))) (ifB (!(FV.toBool (FV.cell h4096 ((0 + ((Int.toNat x2) * 8)) + ((Int.toNat x13) * 1)))))
   (L_level_over_2_0 R k w n x1 x2 x3 x12 (IntKind.wrap .i64 (x13 + 1)) h4096)
   (when (decide (0 ≤ x3) && decide (x3 < 8)) (when (decide (0 ≤ x13) && decide (x13 < 8)) (when (FV.isAg 64 h4096) (when (Nat.blt ((0 + ((Int.toNat x3) * 8)) + ((Int.toNat x13) * 1)) 64) (when (FV.isBool (FV.cell h4096 ((0 + ((Int.toNat x3) * 8)) + ((Int.toNat x13) * 1)))) (ifB (!(FV.toBool (FV.cell h4096 ((0 + ((Int.toNat x3) * 8)) + ((Int.toNat x13) * 1)))))
    (L_level_over_2_0 R k w n x1 x2 x3 x12 (IntKind.wrap .i64 (x13 + 1)) h4096)
    (jump w (J_level_over_2_0 R k w n x1 x2 x3 x13 x12 x13 h4096))))))))))))))
  (some ((.exit 0), X_level_over_2_0)) := by kernel_rfl
theorem J_level_over_2_0_eq (R : Orc) (k : Nat) (w : Bool) (n : Nat) (x1 : Int) (x2 : Int) (x3 : Int) (x9 : Int) (x12 : Int) (x13 : Int) (h4096 : FV) : J_level_over_2_0 R k w n x1 x2 x3 x9 x12 x13 h4096 = onL (L_level_over_1_0 R k w k x1 x2 x3 x9 true x12 x13 x1 0 h4096) (K_level_over_1 R k w n) := by kernel_rfl
theorem X_level_over_2_0_eq (R : Orc) (k : Nat) (w : Bool) : K_level_over_2 R k w (.exit 0) (X_level_over_2_0) = some ([.fz (FV.int .i64 (-1))], []) := by kernel_rfl
theorem L_level_over_1_0_eq (R : Orc) (k : Nat) (w : Bool) (n : Nat) (x1 : Int) (x2 : Int) (x3 : Int) (x9 : Int) (x10 : Bool) (x12 : Int) (x13 : Int) (x30 : Int) (x31 : Int) (h4096 : FV) : L_level_over_1_0 R k w (n + 1) x1 x2 x3 x9 x10 x12 x13 x30 x31 h4096 = ifB (decide (x31 < x30))
  (ifB x10
   (when (decide (0 ≤ x2) && decide (x2 < 8)) (when (decide (0 ≤ x31) && decide (x31 < 8)) (when (FV.isAg 64 h4096) (when (Nat.blt ((0 + ((Int.toNat x2) * 8)) + ((Int.toNat x31) * 1)) 64) (when (FV.isBool (FV.cell h4096 ((0 + ((Int.toNat x2) * 8)) + ((Int.toNat x31) * 1)))) (ifB (!(FV.toBool (FV.cell h4096 ((0 + ((Int.toNat x2) * 8)) + ((Int.toNat x31) * 1)))))
    (L_level_over_1_0 R k w n x1 x2 x3 x9 true x12 x13 x30 (IntKind.wrap .i64 (x31 + 1)) h4096)
    (when (decide (0 ≤ x3) && decide (x3 < 8)) (when (decide (0 ≤ x31) && decide (x31 < 8)) (when (FV.isAg 64 h4096) (when (Nat.blt ((0 + ((Int.toNat x3) * 8)) + ((Int.toNat x31) * 1)) 64) (when (FV.isBool (FV.cell h4096 ((0 + ((Int.toNat x3) * 8)) + ((Int.toNat x31) * 1)))) (ifB (!(FV.toBool (FV.cell h4096 ((0 + ((Int.toNat x3) * 8)) + ((Int.toNat x31) * 1)))))
     (L_level_over_1_0 R k w n x1 x2 x3 x9 true x12 x13 x30 (IntKind.wrap .i64 (x31 + 1)) h4096)
     (when (decide (0 ≤ x9) && decide (x9 < 8)) (when (decide (0 ≤ x31) && decide (x31 < 8)) (when (FV.isAg 64 h4096) (when (Nat.blt ((0 + ((Int.toNat x9) * 8)) + ((Int.toNat x31) * 1)) 64) (when (FV.isBool (FV.cell h4096 ((0 + ((Int.toNat x9) * 8)) + ((Int.toNat x31) * 1)))) (L_level_over_1_0 R k w n x1 x2 x3 x9 (FV.toBool (FV.cell h4096 ((0 + ((Int.toNat x9) * 8)) + ((Int.toNat x31) * 1)))) x12 x13 x30 (IntKind.wrap .i64 (x31 + 1)) h4096))))))))))))))))))
   (L_level_over_1_0 R k w n x1 x2 x3 x9 false x12 x13 x30 (IntKind.wrap .i64 (x31 + 1)) h4096))
  (some ((.exit 2), X_level_over_1_0 x1 x2 x3 x9 x10 x12 x13 h4096)) := by kernel_rfl
theorem X_level_over_1_0_eq (R : Orc) (k : Nat) (w : Bool) (n : Nat) (x1 : Int) (x2 : Int) (x3 : Int) (x9 : Int) (x10 : Bool) (x12 : Int) (x13 : Int) (h4096 : FV) : K_level_over_1 R k w n (.exit 2) (X_level_over_1_0 x1 x2 x3 x9 x10 x12 x13 h4096) = ifB x10
  (some (.ret, X_level_over_2_1 x9))
  (L_level_over_2_0 R k w n x1 x2 x3 x12 (IntKind.wrap .i64 (x13 + 1)) h4096) := by kernel_rfl
theorem X_level_over_2_1_eq (R : Orc) (k : Nat) (w : Bool) (x8 : Int) : K_level_over_2 R k w .ret (X_level_over_2_1 x8) = some ([.fz (FV.int .i64 x8)], []) := by kernel_rfl
/-! keyhole/keyholeref05.zero -/
def A_ref05_zero_j1 : ACode := .seq (.region [⟨(some 33), .fadr 0 (.t 1), none, none⟩,
  ⟨(some 34), .load 1 false (.t 33), none, some (.int .i64)⟩,
  ⟨(some 35), .binI .eql .i64 (.t 34) (.c (.fz (.int .i64 5))), none, some .bool⟩,
  ⟨(some 36), .mov (.t 35), none, some .bool⟩,
  ⟨(some 37), .fadr 0 (.t 1), (some (36, false)), none⟩,
  ⟨(some 38), .load 1 false (.t 37), (some (36, false)), some (.int .i64)⟩,
  ⟨(some 39), .binI .eql .i64 (.t 38) (.c (.fz (.int .i64 6))), (some (36, false)), some .bool⟩,
  ⟨(some 40), .pick (.t 36) (.c (.fz (.bool true))) (.t 39), none, some .bool⟩,
  ⟨(some 41), .mov (.t 40), none, some .bool⟩,
  ⟨(some 42), .fadr 4 (.t 1), (some (41, false)), none⟩,
  ⟨(some 43), .load 1 false (.t 42), (some (41, false)), none⟩,
  ⟨(some 44), .len (.sl 6 true) (.t 43), (some (41, false)), some (.int .i64)⟩,
  ⟨(some 45), .binI .eql .i64 (.t 44) (.c (.fz (.int .i64 0))), (some (41, false)), some .bool⟩,
  ⟨(some 46), .pick (.t 41) (.c (.fz (.bool true))) (.t 45), none, some .bool⟩,
  ⟨(some 47), .mov (.t 46), none, some .bool⟩,
  ⟨(some 48), .fadr 0 (.t 1), (some (47, true)), none⟩,
  ⟨(some 49), .load 1 false (.t 48), (some (47, true)), some (.int .i64)⟩,
  ⟨(some 50), .binI .eql .i64 (.t 49) (.c (.fz (.int .i64 6))), (some (47, true)), some .bool⟩,
  ⟨(some 51), .mov (.t 50), (some (47, true)), some .bool⟩,
  ⟨(some 52), .fadr 5 (.t 1), (some (51, false)), none⟩,
  ⟨(some 53), .load 1 false (.t 52), (some (51, false)), none⟩,
  ⟨(some 54), .len (.sl 1 false) (.t 53), (some (51, false)), some (.int .i64)⟩,
  ⟨(some 55), .binI .eql .i64 (.t 54) (.c (.fz (.int .i64 0))), (some (51, false)), some .bool⟩,
  ⟨(some 56), .pick (.t 51) (.c (.fz (.bool true))) (.t 55), (some (47, true)), some .bool⟩,
  ⟨(some 57), .pick (.t 47) (.t 56) (.c (.fz (.bool false))), none, some .bool⟩,
  ⟨(some 2), .mov (.t 57), none, some .bool⟩])
 (.ret)
def A_ref05_zero : AFunc := ⟨1, [(.tmp 2, .fz)], .seq (.region [⟨(some 1), .box 6 true (.t 0), none, none⟩,
  ⟨(some 2), .mov (.c (.fz (.bool false))), none, some .bool⟩])
 (.seq (.seq (.region [⟨(some 3), .fadr 0 (.t 1), none, none⟩,
    ⟨(some 4), .load 1 false (.t 3), none, some (.int .i64)⟩,
    ⟨(some 5), .binI .neq .i64 (.t 4) (.c (.fz (.int .i64 3))), none, some .bool⟩,
    ⟨(some 6), .mov (.t 5), none, some .bool⟩,
    ⟨(some 7), .fadr 1 (.t 1), (some (6, true)), none⟩,
    ⟨(some 8), .fadr 0 (.t 7), (some (6, true)), none⟩,
    ⟨(some 9), .load 1 false (.t 8), (some (6, true)), some (.int .i64)⟩,
    ⟨(some 10), .binI .neq .i64 (.t 9) (.c (.fz (.int .i64 0))), (some (6, true)), some .bool⟩,
    ⟨(some 11), .mov (.t 10), (some (6, true)), some .bool⟩,
    ⟨(some 12), .fadr 1 (.t 1), (some (11, false)), none⟩,
    ⟨(some 13), .fadr 1 (.t 12), (some (11, false)), none⟩,
    ⟨(some 14), .load 1 false (.t 13), (some (11, false)), some (.int .i64)⟩,
    ⟨(some 15), .binI .neq .i64 (.t 14) (.c (.fz (.int .i64 0))), (some (11, false)), some .bool⟩,
    ⟨(some 16), .pick (.t 11) (.c (.fz (.bool true))) (.t 15), (some (6, true)), some .bool⟩,
    ⟨(some 17), .pick (.t 6) (.t 16) (.c (.fz (.bool false))), none, some .bool⟩,
    ⟨(some 18), .mov (.t 17), none, some .bool⟩,
    ⟨(some 19), .fadr 0 (.t 1), (some (18, false)), none⟩,
    ⟨(some 20), .load 1 false (.t 19), (some (18, false)), some (.int .i64)⟩,
    ⟨(some 21), .binI .neq .i64 (.t 20) (.c (.fz (.int .i64 4))), (some (18, false)), some .bool⟩,
    ⟨(some 22), .mov (.t 21), (some (18, false)), some .bool⟩,
    ⟨(some 23), .fadr 0 (.t 1), (some (22, true)), none⟩,
    ⟨(some 24), .load 1 false (.t 23), (some (22, true)), some (.int .i64)⟩,
    ⟨(some 25), .binI .neq .i64 (.t 24) (.c (.fz (.int .i64 7))), (some (22, true)), some .bool⟩,
    ⟨(some 26), .pick (.t 22) (.t 25) (.c (.fz (.bool false))), (some (18, false)), some .bool⟩,
    ⟨(some 27), .mov (.t 26), (some (18, false)), some .bool⟩,
    ⟨(some 28), .fadr 3 (.t 1), (some (27, true)), none⟩,
    ⟨(some 29), .load 1 false (.t 28), (some (27, true)), some .str⟩,
    ⟨(some 30), .binS .neq (.t 29) (.c (.fz (.str ⟨#[]⟩))), (some (27, true)), some .bool⟩,
    ⟨(some 31), .pick (.t 27) (.t 30) (.c (.fz (.bool false))), (some (18, false)), some .bool⟩,
    ⟨(some 32), .pick (.t 18) (.c (.fz (.bool true))) (.t 31), none, some .bool⟩])
   (.cond (.t 32) (.seq (.region [⟨(some 2), .mov (.c (.fz (.bool false))), none, some .bool⟩])
     (.ret))
    (.skip)))
  (.trim [1] A_ref05_zero_j1))⟩
def J_ref05_zero_1_0 (R : Orc) (k : Nat) (w : Bool) (h4096_0 : Int) (h4096_1 : Int) (h4096_2 : Int) (h4096_3 : ByteArray) (h4096_4 : List FV) (h4096_5 : List FV) := execL R k w [] A_ref05_zero_j1 Ans ⟨[(1, .ptr 4096 0 0)], [(4095, .dead), (4096, .var 6 true (.fz (FV.ag [(FV.int .i64 h4096_0), (FV.int .i64 h4096_1), (FV.int .i64 h4096_2), (FV.str h4096_3), (FV.sl h4096_4), (FV.sl h4096_5)])))]⟩ (kFin R [(.tmp 2, .fz)] [])
theorem E_ref05_zero (R : Orc) (k : Nat) (w : Bool) (a0_0 : Int) (a0_1_0 : Int) (a0_1_1 : Int) (a0_2 : ByteArray) (a0_3 : List FV) (a0_4 : List FV) : callL R k w A_ref05_zero [.fz (FV.ag [(FV.int .i64 a0_0), (FV.int .i64 a0_1_0), (FV.int .i64 a0_1_1), (FV.str a0_2), (FV.sl a0_3), (FV.sl a0_4)])] = ifB (a0_0 != 3)
  (ifB (a0_1_0 != 0)
   (some ([.fz (FV.bool false)], []))
   (ifB (a0_1_1 != 0)
    (some ([.fz (FV.bool false)], []))
    (ifB (a0_0 != 4)
     (ifB (a0_0 != 7)
      (ifB (!(ByteArray.toList a0_2 == ByteArray.toList (⟨#[]⟩ : ByteArray)))
       (some ([.fz (FV.bool false)], []))
       (jump w (J_ref05_zero_1_0 R k w a0_0 a0_1_0 a0_1_1 a0_2 a0_3 a0_4)))
      (jump w (J_ref05_zero_1_0 R k w a0_0 a0_1_0 a0_1_1 a0_2 a0_3 a0_4)))
     (jump w (J_ref05_zero_1_0 R k w a0_0 a0_1_0 a0_1_1 a0_2 a0_3 a0_4)))))
  (ifB (a0_0 != 4)
   (ifB (a0_0 != 7)
    (ifB (!(ByteArray.toList a0_2 == ByteArray.toList (⟨#[]⟩ : ByteArray)))
     (some ([.fz (FV.bool false)], []))
     (jump w (J_ref05_zero_1_0 R k w a0_0 a0_1_0 a0_1_1 a0_2 a0_3 a0_4)))
    (jump w (J_ref05_zero_1_0 R k w a0_0 a0_1_0 a0_1_1 a0_2 a0_3 a0_4)))
   (jump w (J_ref05_zero_1_0 R k w a0_0 a0_1_0 a0_1_1 a0_2 a0_3 a0_4))) := by kernel_rfl
theorem J_ref05_zero_1_0_eq (R : Orc) (k : Nat) (w : Bool) (h4096_0 : Int) (h4096_1 : Int) (h4096_2 : Int) (h4096_3 : ByteArray) (h4096_4 : List FV) (h4096_5 : List FV) : J_ref05_zero_1_0 R k w h4096_0 h4096_1 h4096_2 h4096_3 h4096_4 h4096_5 = ifB (h4096_0 == 5)
  (ifB (h4096_0 == 6)
   (some ([.fz (FV.bool true)], []))
   (some ([.fz (FV.bool ((List.length h4096_5 : Int) == 0))], [])))
  (ifB (h4096_0 == 6)
   (ifB (h4096_0 == 6)
    (some ([.fz (FV.bool true)], []))
    (some ([.fz (FV.bool ((List.length h4096_5 : Int) == 0))], [])))
   (ifB ((List.length h4096_4 : Int) == 0)
    (ifB (h4096_0 == 6)
     (some ([.fz (FV.bool true)], []))
     (some ([.fz (FV.bool ((List.length h4096_5 : Int) == 0))], [])))
    (some ([.fz (FV.bool false)], [])))) := by kernel_rfl
end Go.Ab
