-- Written by a program of the session, out of the translation. Lean checks it.
import Derived.Test.YtpkhkbihmplhcaaA0
namespace Go.Ab
set_option linter.unusedVariables false
set_option maxRecDepth 100000
/-! (*keyhole/level.Lattice).fill -/
def A_level_Lattice_fill_b1 : ACode := .seq (.region [⟨(some 20), .binI .lss .i64 (.t 19) (.t 18), none, some .bool⟩])
 (.seq (.cond (.t 20) (.skip)
   (.exit 2))
  (.seq (.block 3 (.seq (.region [⟨(some 21), .mov (.t 19), none, some (.int .i64)⟩,
      ⟨(some 7), .mov (.t 21), none, some (.int .i64)⟩])
     (.seq (.draws [⟨⟨(some 22), .mov (.t 0), none, none⟩, []⟩,
       ⟨⟨(some 23), .mov (.t 6), none, some (.int .i64)⟩, []⟩,
       ⟨⟨(some 24), .mov (.t 7), none, some (.int .i64)⟩, []⟩,
       ⟨⟨(some 25), .mov (.t 0), none, none⟩, []⟩,
       ⟨⟨(some 26), .nilck (.t 25), none, none⟩, [3]⟩,
       ⟨⟨(some 27), .fadr 1 (.t 26), none, none⟩, [4]⟩,
       ⟨⟨(some 28), .load 64 true (.t 27), none, none⟩, [5]⟩,
       ⟨⟨(some 29), .mov (.t 1), none, some (.int .i64)⟩, []⟩,
       ⟨⟨(some 30), .mov (.t 6), none, some (.int .i64)⟩, []⟩,
       ⟨⟨(some 31), .mov (.t 7), none, some (.int .i64)⟩, []⟩,
       ⟨⟨(some 32), .call N_level_over [((.t 28), .fz), ((.t 29), .fz), ((.t 30), .fz), ((.t 31), .fz)] [.fz], none, some (.int .i64)⟩, [6, 7, 8, 9]⟩,
       ⟨⟨(some 33), .nilck (.t 22), none, none⟩, [0]⟩,
       ⟨⟨(some 34), .fadr 65 (.t 33), none, none⟩, [11]⟩,
       ⟨⟨(some 35), .iadr (.arr 8 8 true) (.t 34) (.t 23), none, none⟩, [12, 1]⟩,
       ⟨⟨(some 36), .iadr (.arr 8 1 false) (.t 35) (.t 24), none, none⟩, [13, 2, 0, 1, 2, 3, 4, 5, 6, 7, 8, 9, 10]⟩,
       ⟨⟨none, .store 1 false (.t 36) (.t 32), none, none⟩, [14, 10, 10, 0, 1, 2, 3, 4, 5, 6, 7, 8, 9, 10]⟩])
      (.seq (.draws [⟨⟨(some 37), .mov (.t 0), none, none⟩, []⟩,
        ⟨⟨(some 38), .mov (.t 6), none, some (.int .i64)⟩, []⟩,
        ⟨⟨(some 39), .mov (.t 7), none, some (.int .i64)⟩, []⟩,
        ⟨⟨(some 40), .load 64 true (.t 5), none, none⟩, []⟩,
        ⟨⟨(some 41), .mov (.t 1), none, some (.int .i64)⟩, []⟩,
        ⟨⟨(some 42), .mov (.t 6), none, some (.int .i64)⟩, []⟩,
        ⟨⟨(some 43), .mov (.t 7), none, some (.int .i64)⟩, []⟩,
        ⟨⟨(some 44), .call N_level_over [((.t 40), .fz), ((.t 41), .fz), ((.t 42), .fz), ((.t 43), .fz)] [.fz], none, some (.int .i64)⟩, [3, 4, 5, 6]⟩,
        ⟨⟨(some 45), .nilck (.t 37), none, none⟩, [0]⟩,
        ⟨⟨(some 46), .fadr 129 (.t 45), none, none⟩, [8]⟩,
        ⟨⟨(some 47), .iadr (.arr 8 8 true) (.t 46) (.t 38), none, none⟩, [9, 1]⟩,
        ⟨⟨(some 48), .iadr (.arr 8 1 false) (.t 47) (.t 39), none, none⟩, [10, 2, 0, 1, 2, 3, 4, 5, 6, 7]⟩,
        ⟨⟨none, .store 1 false (.t 48) (.t 44), none, none⟩, [11, 7, 7, 0, 1, 2, 3, 4, 5, 6, 7]⟩])
       (.seq (.region [⟨(some 49), .mov (.t 0), none, none⟩,
         ⟨(some 50), .mov (.t 6), none, some (.int .i64)⟩,
         ⟨(some 51), .mov (.t 7), none, some (.int .i64)⟩,
         ⟨(some 52), .nilck (.t 49), none, none⟩,
         ⟨(some 53), .fadr 65 (.t 52), none, none⟩,
         ⟨(some 54), .iadr (.arr 8 8 true) (.t 53) (.t 50), none, none⟩,
         ⟨(some 55), .iadr (.arr 8 1 false) (.t 54) (.t 51), none, none⟩,
         ⟨(some 56), .load 1 false (.t 55), none, some (.int .i64)⟩,
         ⟨(some 57), .binI .lss .i64 (.t 56) (.c (.fz (.int .i64 0))), none, some .bool⟩,
         ⟨(some 58), .mov (.t 57), none, some .bool⟩,
         ⟨(some 59), .mov (.t 0), (some (58, false)), none⟩,
         ⟨(some 60), .mov (.t 6), (some (58, false)), some (.int .i64)⟩,
         ⟨(some 61), .mov (.t 7), (some (58, false)), some (.int .i64)⟩,
         ⟨(some 62), .nilck (.t 59), (some (58, false)), none⟩,
         ⟨(some 63), .fadr 129 (.t 62), (some (58, false)), none⟩,
         ⟨(some 64), .iadr (.arr 8 8 true) (.t 63) (.t 60), (some (58, false)), none⟩,
         ⟨(some 65), .iadr (.arr 8 1 false) (.t 64) (.t 61), (some (58, false)), none⟩,
         ⟨(some 66), .load 1 false (.t 65), (some (58, false)), some (.int .i64)⟩,
         ⟨(some 67), .binI .lss .i64 (.t 66) (.c (.fz (.int .i64 0))), (some (58, false)), some .bool⟩,
         ⟨(some 68), .pick (.t 58) (.c (.fz (.bool true))) (.t 67), none, some .bool⟩])
        (.cond (.t 68) (.seq (.region [⟨(some 4), .mov (.c (.fz (.bool false))), none, some .bool⟩])
          (.ret))
         (.skip)))))))
   (.region [⟨(some 69), .binI .add .i64 (.t 19) (.c (.fz (.int .i64 1))), none, some (.int .i64)⟩,
    ⟨(some 19), .mov (.t 69), none, some (.int .i64)⟩])))
def A_level_Lattice_fill_s1 : ACode := .region [⟨(some 70), .binI .add .i64 (.t 15) (.c (.fz (.int .i64 1))), none, some (.int .i64)⟩,
 ⟨(some 15), .mov (.t 70), none, some (.int .i64)⟩]
def A_level_Lattice_fill_b2 : ACode := .seq (.region [⟨(some 16), .binI .lss .i64 (.t 15) (.t 14), none, some .bool⟩])
 (.seq (.cond (.t 16) (.skip)
   (.exit 0))
  (.seq (.block 1 (.seq (.region [⟨(some 17), .mov (.t 15), none, some (.int .i64)⟩,
      ⟨(some 6), .mov (.t 17), none, some (.int .i64)⟩])
     (.seq (.region [⟨(some 18), .mov (.t 1), none, some (.int .i64)⟩,
       ⟨(some 19), .mov (.c (.fz (.int .i64 0))), none, some (.int .i64)⟩])
      (.block 2 (.loop [0, 1, 5, 6, 14, 15, 18, 19] [0, 1, 4, 5, 14, 15] A_level_Lattice_fill_b1)))))
   A_level_Lattice_fill_s1))
def A_level_Lattice_fill_b3 : ACode := .seq (.region [⟨(some 73), .binI .lss .i64 (.t 72) (.t 71), none, some .bool⟩])
 (.seq (.cond (.t 73) (.skip)
   (.exit 4))
  (.seq (.block 5 (.seq (.region [⟨(some 74), .mov (.t 72), none, some (.int .i64)⟩,
      ⟨(some 8), .mov (.t 74), none, some (.int .i64)⟩])
     (.seq (.draws [⟨⟨(some 75), .mov (.t 0), none, none⟩, []⟩,
       ⟨⟨(some 76), .mov (.t 0), none, none⟩, []⟩,
       ⟨⟨(some 77), .mov (.t 0), none, none⟩, []⟩,
       ⟨⟨(some 78), .nilck (.t 77), none, none⟩, [2]⟩,
       ⟨⟨(some 79), .fadr 193 (.t 78), none, none⟩, [3]⟩,
       ⟨⟨(some 80), .load 1 false (.t 79), none, some (.int .i64)⟩, [4]⟩,
       ⟨⟨(some 81), .mov (.t 8), none, some (.int .i64)⟩, []⟩,
       ⟨⟨(some 82), .nilck (.t 76), none, none⟩, [1]⟩,
       ⟨⟨(some 83), .fadr 129 (.t 82), none, none⟩, [7]⟩,
       ⟨⟨(some 84), .iadr (.arr 8 8 true) (.t 83) (.t 80), none, none⟩, [8, 5]⟩,
       ⟨⟨(some 85), .iadr (.arr 8 1 false) (.t 84) (.t 81), none, none⟩, [9, 6]⟩,
       ⟨⟨(some 86), .load 1 false (.t 85), none, some (.int .i64)⟩, [10]⟩,
       ⟨⟨(some 87), .nilck (.t 75), none, none⟩, [0, 0, 1, 2, 3, 4, 5, 6, 7, 8, 9, 10, 11]⟩,
       ⟨⟨(some 88), .fadr 193 (.t 87), none, none⟩, [12, 0, 1, 2, 3, 4, 5, 6, 7, 8, 9, 10, 11]⟩,
       ⟨⟨none, .store 1 false (.t 88) (.t 86), none, none⟩, [13, 11, 0, 1, 2, 3, 4, 5, 6, 7, 8, 9, 10, 11]⟩])
      (.draws [⟨⟨(some 89), .mov (.t 0), none, none⟩, []⟩,
       ⟨⟨(some 90), .mov (.t 0), none, none⟩, []⟩,
       ⟨⟨(some 91), .mov (.t 0), none, none⟩, []⟩,
       ⟨⟨(some 92), .nilck (.t 91), none, none⟩, [2]⟩,
       ⟨⟨(some 93), .fadr 194 (.t 92), none, none⟩, [3]⟩,
       ⟨⟨(some 94), .load 1 false (.t 93), none, some (.int .i64)⟩, [4]⟩,
       ⟨⟨(some 95), .mov (.t 8), none, some (.int .i64)⟩, []⟩,
       ⟨⟨(some 96), .nilck (.t 90), none, none⟩, [1]⟩,
       ⟨⟨(some 97), .fadr 65 (.t 96), none, none⟩, [7]⟩,
       ⟨⟨(some 98), .iadr (.arr 8 8 true) (.t 97) (.t 94), none, none⟩, [8, 5]⟩,
       ⟨⟨(some 99), .iadr (.arr 8 1 false) (.t 98) (.t 95), none, none⟩, [9, 6]⟩,
       ⟨⟨(some 100), .load 1 false (.t 99), none, some (.int .i64)⟩, [10]⟩,
       ⟨⟨(some 101), .nilck (.t 89), none, none⟩, [0, 0, 1, 2, 3, 4, 5, 6, 7, 8, 9, 10, 11]⟩,
       ⟨⟨(some 102), .fadr 194 (.t 101), none, none⟩, [12, 0, 1, 2, 3, 4, 5, 6, 7, 8, 9, 10, 11]⟩,
       ⟨⟨none, .store 1 false (.t 102) (.t 100), none, none⟩, [13, 11, 0, 1, 2, 3, 4, 5, 6, 7, 8, 9, 10, 11]⟩]))))
   (.region [⟨(some 103), .binI .add .i64 (.t 72) (.c (.fz (.int .i64 1))), none, some (.int .i64)⟩,
    ⟨(some 72), .mov (.t 103), none, some (.int .i64)⟩])))
def A_level_Lattice_fill_s2 : ACode := .seq (.region [⟨(some 4), .mov (.c (.fz (.bool true))), none, some .bool⟩])
 (.ret)
def A_level_Lattice_fill_s3 : ACode := .seq (.seq (.region [⟨(some 71), .mov (.t 1), none, some (.int .i64)⟩,
   ⟨(some 72), .mov (.c (.fz (.int .i64 0))), none, some (.int .i64)⟩])
  (.block 4 (.loop [0, 71, 72] [] A_level_Lattice_fill_b3)))
 A_level_Lattice_fill_s2
def A_level_Lattice_fill : AFunc := ⟨2, [(.tmp 4, .fz)], .seq (.region [⟨(some 4), .mov (.c (.fz (.bool false))), none, some .bool⟩])
 (.seq (.region [⟨(some 9), .mov (.t 0), none, none⟩,
   ⟨(some 10), .nilck (.t 9), none, none⟩,
   ⟨(some 11), .fadr 1 (.t 10), none, none⟩,
   ⟨(some 12), .load 64 true (.t 11), none, none⟩,
   ⟨(some 13), .call N_level_turned [((.t 12), .fz)] [.fz], none, none⟩,
   ⟨(some 5), .alloc 64 true (.fz (.ag [.bool false, .bool false, .bool false, .bool false, .bool false, .bool false, .bool false, .bool false, .bool false, .bool false, .bool false, .bool false, .bool false, .bool false, .bool false, .bool false, .bool false, .bool false, .bool false, .bool false, .bool false, .bool false, .bool false, .bool false, .bool false, .bool false, .bool false, .bool false, .bool false, .bool false, .bool false, .bool false, .bool false, .bool false, .bool false, .bool false, .bool false, .bool false, .bool false, .bool false, .bool false, .bool false, .bool false, .bool false, .bool false, .bool false, .bool false, .bool false, .bool false, .bool false, .bool false, .bool false, .bool false, .bool false, .bool false, .bool false, .bool false, .bool false, .bool false, .bool false, .bool false, .bool false, .bool false, .bool false])), none, none⟩,
   ⟨none, .store 64 true (.t 5) (.t 13), none, none⟩])
  (.seq (.seq (.region [⟨(some 14), .mov (.t 1), none, some (.int .i64)⟩,
     ⟨(some 15), .mov (.c (.fz (.int .i64 0))), none, some (.int .i64)⟩])
    (.block 0 (.loop [0, 1, 5, 14, 15] [0, 1, 4] A_level_Lattice_fill_b2)))
   A_level_Lattice_fill_s3))⟩
def K_level_Lattice_fill_2 (R : Orc) (k : Nat) (w : Bool) : AExit → St → Option Ans := (kBlk 0 (kSeq R k w [0] A_level_Lattice_fill_s3 (kFin R [(.tmp 4, .fz)] [0])))
def L_level_Lattice_fill_2_0 (R : Orc) (k : Nat) (w : Bool) (n : Nat) (x1 : Int) (x14 : Int) (x15 : Int) (h0 : FV) (h4096 : FV) := loopL R k w [0] [0, 1, 5, 14, 15] [0, 1, 4] A_level_Lattice_fill_b2 n ⟨[(0, .ptr 0 0 0), (1, .fz (FV.int .i64 x1)), (5, .ptr 4096 0 0), (14, .fz (FV.int .i64 x14)), (15, .fz (FV.int .i64 x15))], [(0, .var 195 true (.fz h0)), (4095, .dead), (4096, .var 64 true (.fz h4096))]⟩
def K_level_Lattice_fill_1 (R : Orc) (k : Nat) (w : Bool) (n : Nat) : AExit → St → Option (AExit × St) := (kBlk 2 (kBlk 1 (kSeq R k w [0] A_level_Lattice_fill_s1 (kLoop R k w [0] [0, 1, 5, 14, 15] [0, 1, 4] A_level_Lattice_fill_b2 n))))
def L_level_Lattice_fill_1_0 (R : Orc) (k : Nat) (w : Bool) (n : Nat) (x1 : Int) (x6 : Int) (x14 : Int) (x15 : Int) (x18 : Int) (x19 : Int) (h0 : FV) (h4096 : FV) := loopL R k w [0] [0, 1, 5, 6, 14, 15, 18, 19] [0, 1, 4, 5, 14, 15] A_level_Lattice_fill_b1 n ⟨[(0, .ptr 0 0 0), (1, .fz (FV.int .i64 x1)), (5, .ptr 4096 0 0), (6, .fz (FV.int .i64 x6)), (14, .fz (FV.int .i64 x14)), (15, .fz (FV.int .i64 x15)), (18, .fz (FV.int .i64 x18)), (19, .fz (FV.int .i64 x19))], [(0, .var 195 true (.fz h0)), (4095, .dead), (4096, .var 64 true (.fz h4096))]⟩
def X_level_Lattice_fill_2_0 (x1 : Int) (h0 : FV) : St := ⟨[(0, .ptr 0 0 0), (1, .fz (FV.int .i64 x1))], [(0, .var 195 true (.fz h0)), (4095, .dead)]⟩
def X_level_Lattice_fill_1_0 (x1 : Int) (x4 : Bool) (x14 : Int) (x15 : Int) (h0 : FV) (h4096 : FV) : St := ⟨[(0, .ptr 0 0 0), (1, .fz (FV.int .i64 x1)), (4, .fz (FV.bool x4)), (5, .ptr 4096 0 0), (14, .fz (FV.int .i64 x14)), (15, .fz (FV.int .i64 x15))], [(0, .var 195 true (.fz h0)), (4095, .dead), (4096, .var 64 true (.fz h4096))]⟩
def X_level_Lattice_fill_1_1 (x1 : Int) (x14 : Int) (x15 : Int) (h0 : FV) (h4096 : FV) : St := ⟨[(0, .ptr 0 0 0), (1, .fz (FV.int .i64 x1)), (5, .ptr 4096 0 0), (14, .fz (FV.int .i64 x14)), (15, .fz (FV.int .i64 x15))], [(0, .var 195 true (.fz h0)), (4095, .dead), (4096, .var 64 true (.fz h4096))]⟩
def K_level_Lattice_fill_3 (R : Orc) (k : Nat) (w : Bool) : AExit → St → Option Ans := (kBlk 4 (kSeq R k w [0] A_level_Lattice_fill_s2 (kFin R [(.tmp 4, .fz)] [0])))
def L_level_Lattice_fill_3_0 (R : Orc) (k : Nat) (w : Bool) (n : Nat) (x71 : Int) (x72 : Int) (h0 : FV) := loopL R k w [0] [0, 71, 72] [] A_level_Lattice_fill_b3 n ⟨[(0, .ptr 0 0 0), (71, .fz (FV.int .i64 x71)), (72, .fz (FV.int .i64 x72))], [(0, .var 195 true (.fz h0)), (4095, .dead)]⟩
def X_level_Lattice_fill_2_1 (x1 : Int) (x4 : Bool) (h0 : FV) : St := ⟨[(0, .ptr 0 0 0), (1, .fz (FV.int .i64 x1)), (4, .fz (FV.bool x4))], [(0, .var 195 true (.fz h0)), (4095, .dead)]⟩
def X_level_Lattice_fill_3_0 (h0 : FV) : St := ⟨[], [(0, .var 195 true (.fz h0)), (4095, .dead)]⟩
theorem E_level_Lattice_fill (R : Orc) (k : Nat) (w : Bool) (a0 : FV) (a1 : Int) : callL R k w A_level_Lattice_fill [.pv 195 true (.fz a0), .fz (FV.int .i64 a1)] = when (FV.isAg 195 a0) (onR (R N_level_turned [.fz (FV.ag (List.map (fun j => FV.cell a0 (1 + j)) (List.range 64)))]) fun r0 => when (List.isEmpty r0.2 && allF [.fz] r0.1) (when (FV.fits 64 true (TV.toF (List.getD r0.1 0 TV.em))) (onL (L_level_Lattice_fill_2_0 R k w k a1 a1 0 a0 (TV.toF (List.getD r0.1 0 TV.em))) (K_level_Lattice_fill_2 R k w)))) := by kernel_rfl
theorem L_level_Lattice_fill_2_0_eq (R : Orc) (k : Nat) (w : Bool) (n : Nat) (x1 : Int) (x14 : Int) (x15 : Int) (h0 : FV) (h4096 : FV) : L_level_Lattice_fill_2_0 R k w (n + 1) x1 x14 x15 h0 h4096 = ifB (decide (x15 < x14))
  (onL (L_level_Lattice_fill_1_0 R k w k x1 x15 x14 x15 x1 0 h0 h4096) (K_level_Lattice_fill_1 R k w n))
  (some ((.exit 0), X_level_Lattice_fill_2_0 x1 h0)) := by kernel_rfl
theorem L_level_Lattice_fill_1_0_eq (R : Orc) (k : Nat) (w : Bool) (n : Nat) (x1 : Int) (x6 : Int) (x14 : Int) (x15 : Int) (x18 : Int) (x19 : Int) (h0 : FV) (h4096 : FV) : L_level_Lattice_fill_1_0 R k w (n + 1) x1 x6 x14 x15 x18 x19 h0 h4096 = ifB (decide (x19 < x18))
  (when (FV.isAg 195 h0) (onR (R N_level_over [.fz (FV.ag (List.map (fun j => FV.cell h0 (1 + j)) (List.range 64))), .fz (FV.int .i64 x1), .fz (FV.int .i64 x6), .fz (FV.int .i64 x19)]) fun r1 => when (List.isEmpty r1.2 && allF [.fz] r1.1) (when (FV.isInt .i64 (TV.toF (List.getD r1.1 0 TV.em))) (when (decide (0 ≤ x6) && decide (x6 < 8)) (when (decide (0 ≤ x19) && decide (x19 < 8)) (when ((FV.isAg 195 h0) && true) (when (Nat.blt ((65 + ((Int.toNat x6) * 8)) + ((Int.toNat x19) * 1)) 195) (onR (R N_level_over [.fz h4096, .fz (FV.int .i64 x1), .fz (FV.int .i64 x6), .fz (FV.int .i64 x19)]) fun r2 => when (List.isEmpty r2.2 && allF [.fz] r2.1) (when (FV.isInt .i64 (TV.toF (List.getD r2.1 0 TV.em))) (when (decide (0 ≤ x6) && decide (x6 < 8)) (when (decide (0 ≤ x19) && decide (x19 < 8)) (when ((FV.isAg 195 (FV.ag (List.set (FV.toAg h0) ((65 + ((Int.toNat x6) * 8)) + ((Int.toNat x19) * 1)) (FV.int .i64 (FV.toInt (TV.toF (List.getD r1.1 0 TV.em))))))) && true) (when (Nat.blt ((129 + ((Int.toNat x6) * 8)) + ((Int.toNat x19) * 1)) 195) (when (decide (0 ≤ x6) && decide (x6 < 8)) (when (decide (0 ≤ x19) && decide (x19 < 8)) (when (FV.isAg 195 (FV.ag (List.set (FV.toAg (FV.ag (List.set (FV.toAg h0) ((65 + ((Int.toNat x6) * 8)) + ((Int.toNat x19) * 1)) (FV.int .i64 (FV.toInt (TV.toF (List.getD r1.1 0 TV.em))))))) ((129 + ((Int.toNat x6) * 8)) + ((Int.toNat x19) * 1)) (FV.int .i64 (FV.toInt (TV.toF (List.getD r2.1 0 TV.em))))))) (when (Nat.blt ((65 + ((Int.toNat x6) * 8)) + ((Int.toNat x19) * 1)) 195) (when (FV.isInt .i64 (FV.cell (FV.ag (List.set (FV.toAg (FV.ag (List.set (FV.toAg h0) ((65 + ((Int.toNat x6) * 8)) + ((Int.toNat x19) * 1)) (FV.int .i64 (FV.toInt (TV.toF (List.getD r1.1 0 TV.em))))))) ((129 + ((Int.toNat x6) * 8)) + ((Int.toNat x19) * 1)) (FV.int .i64 (FV.toInt (TV.toF (List.getD r2.1 0 TV.em)))))) ((65 + ((Int.toNat x6) * 8)) + ((Int.toNat x19) * 1)))) (ifB (decide ((FV.toInt (FV.cell (FV.ag (List.set (FV.toAg (FV.ag (List.set (FV.toAg h0) ((65 + ((Int.toNat x6) * 8)) + ((Int.toNat x19) * 1)) (FV.int .i64 (FV.toInt (TV.toF (List.getD r1.1 0 TV.em))))))) ((129 + ((Int.toNat x6) * 8)) + ((Int.toNat x19) * 1)) (FV.int .i64 (FV.toInt (TV.toF (List.getD r2.1 0 TV.em)))))) ((65 + ((Int.toNat x6) * 8)) + ((Int.toNat x19) * 1)))) < 0))
   (some (.ret, X_level_Lattice_fill_1_0 x1 false x14 x15 (FV.ag (List.set (FV.toAg (FV.ag (List.set (FV.toAg h0) ((65 + ((Int.toNat x6) * 8)) + ((Int.toNat x19) * 1)) (FV.int .i64 (FV.toInt (TV.toF (List.getD r1.1 0 TV.em))))))) ((129 + ((Int.toNat x6) * 8)) + ((Int.toNat x19) * 1)) (FV.int .i64 (FV.toInt (TV.toF (List.getD r2.1 0 TV.em)))))) h4096))
   (when (decide (0 ≤ x6) && decide (x6 < 8)) (when (decide (0 ≤ x19) && decide (x19 < 8)) (when (FV.isAg 195 (FV.ag (List.set (FV.toAg (FV.ag (List.set (FV.toAg h0) ((65 + ((Int.toNat x6) * 8)) + ((Int.toNat x19) * 1)) (FV.int .i64 (FV.toInt (TV.toF (List.getD r1.1 0 TV.em))))))) ((129 + ((Int.toNat x6) * 8)) + ((Int.toNat x19) * 1)) (FV.int .i64 (FV.toInt (TV.toF (List.getD r2.1 0 TV.em))))))) (when (Nat.blt ((129 + ((Int.toNat x6) * 8)) + ((Int.toNat x19) * 1)) 195) (when (FV.isInt .i64 (FV.cell (FV.ag (List.set (FV.toAg (FV.ag (List.set (FV.toAg h0) ((65 + ((Int.toNat x6) * 8)) + ((Int.toNat x19) * 1)) (FV.int .i64 (FV.toInt (TV.toF (List.getD r1.1 0 TV.em))))))) ((129 + ((Int.toNat x6) * 8)) + ((Int.toNat x19) * 1)) (FV.int .i64 (FV.toInt (TV.toF (List.getD r2.1 0 TV.em)))))) ((129 + ((Int.toNat x6) * 8)) + ((Int.toNat x19) * 1)))) (ifB (decide ((FV.toInt (FV.cell (FV.ag (List.set (FV.toAg (FV.ag (List.set (FV.toAg h0) ((65 + ((Int.toNat x6) * 8)) + ((Int.toNat x19) * 1)) (FV.int .i64 (FV.toInt (TV.toF (List.getD r1.1 0 TV.em))))))) ((129 + ((Int.toNat x6) * 8)) + ((Int.toNat x19) * 1)) (FV.int .i64 (FV.toInt (TV.toF (List.getD r2.1 0 TV.em)))))) ((129 + ((Int.toNat x6) * 8)) + ((Int.toNat x19) * 1)))) < 0))
    (some (.ret, X_level_Lattice_fill_1_0 x1 false x14 x15 (FV.ag (List.set (FV.toAg (FV.ag (List.set (FV.toAg h0) ((65 + ((Int.toNat x6) * 8)) + ((Int.toNat x19) * 1)) (FV.int .i64 (FV.toInt (TV.toF (List.getD r1.1 0 TV.em))))))) ((129 + ((Int.toNat x6) * 8)) + ((Int.toNat x19) * 1)) (FV.int .i64 (FV.toInt (TV.toF (List.getD r2.1 0 TV.em)))))) h4096))
    (L_level_Lattice_fill_1_0 R k w n x1 x6 x14 x15 x18 (IntKind.wrap .i64 (x19 + 1)) (FV.ag (List.set (FV.toAg (FV.ag (List.set (FV.toAg h0) ((65 + ((Int.toNat x6) * 8)) + ((Int.toNat x19) * 1)) (FV.int .i64 (FV.toInt (TV.toF (List.getD r1.1 0 TV.em))))))) ((129 + ((Int.toNat x6) * 8)) + ((Int.toNat x19) * 1)) (FV.int .i64 (FV.toInt (TV.toF (List.getD r2.1 0 TV.em)))))) h4096))))))))))))))))))))))))))
  (some ((.exit 2), X_level_Lattice_fill_1_1 x1 x14 x15 h0 h4096)) := by kernel_rfl
theorem X_level_Lattice_fill_2_0_eq (R : Orc) (k : Nat) (w : Bool) (x1 : Int) (h0 : FV) : K_level_Lattice_fill_2 R k w (.exit 0) (X_level_Lattice_fill_2_0 x1 h0) = onL (L_level_Lattice_fill_3_0 R k w k x1 0 h0) (K_level_Lattice_fill_3 R k w) := by kernel_rfl
theorem X_level_Lattice_fill_1_0_eq (R : Orc) (k : Nat) (w : Bool) (n : Nat) (x1 : Int) (x4 : Bool) (x14 : Int) (x15 : Int) (h0 : FV) (h4096 : FV) : K_level_Lattice_fill_1 R k w n .ret (X_level_Lattice_fill_1_0 x1 x4 x14 x15 h0 h4096) = some (.ret, X_level_Lattice_fill_2_1 x1 x4 h0) := by kernel_rfl
theorem X_level_Lattice_fill_1_1_eq (R : Orc) (k : Nat) (w : Bool) (n : Nat) (x1 : Int) (x14 : Int) (x15 : Int) (h0 : FV) (h4096 : FV) : K_level_Lattice_fill_1 R k w n (.exit 2) (X_level_Lattice_fill_1_1 x1 x14 x15 h0 h4096) = L_level_Lattice_fill_2_0 R k w n x1 x14 (IntKind.wrap .i64 (x15 + 1)) h0 h4096 := by kernel_rfl
theorem L_level_Lattice_fill_3_0_eq (R : Orc) (k : Nat) (w : Bool) (n : Nat) (x71 : Int) (x72 : Int) (h0 : FV) : L_level_Lattice_fill_3_0 R k w (n + 1) x71 x72 h0 = ifB (decide (x72 < x71))
  (when (FV.isAg 195 h0) (when (FV.isInt .i64 (FV.cell h0 193)) (when (decide (0 ≤ (FV.toInt (FV.cell h0 193))) && decide ((FV.toInt (FV.cell h0 193)) < 8)) (when (decide (0 ≤ x72) && decide (x72 < 8)) (when (FV.isAg 195 h0) (when (Nat.blt ((129 + ((Int.toNat (FV.toInt (FV.cell h0 193))) * 8)) + ((Int.toNat x72) * 1)) 195) (when (FV.isInt .i64 (FV.cell h0 ((129 + ((Int.toNat (FV.toInt (FV.cell h0 193))) * 8)) + ((Int.toNat x72) * 1)))) (when ((FV.isAg 195 h0) && true) (when (FV.isAg 195 (FV.ag (List.set (FV.toAg h0) 193 (FV.int .i64 (FV.toInt (FV.cell h0 ((129 + ((Int.toNat (FV.toInt (FV.cell h0 193))) * 8)) + ((Int.toNat x72) * 1)))))))) (when (FV.isInt .i64 (FV.cell (FV.ag (List.set (FV.toAg h0) 193 (FV.int .i64 (FV.toInt (FV.cell h0 ((129 + ((Int.toNat (FV.toInt (FV.cell h0 193))) * 8)) + ((Int.toNat x72) * 1))))))) 194)) (when (decide (0 ≤ (FV.toInt (FV.cell (FV.ag (List.set (FV.toAg h0) 193 (FV.int .i64 (FV.toInt (FV.cell h0 ((129 + ((Int.toNat (FV.toInt (FV.cell h0 193))) * 8)) + ((Int.toNat x72) * 1))))))) 194))) && decide ((FV.toInt (FV.cell (FV.ag (List.set (FV.toAg h0) 193 (FV.int .i64 (FV.toInt (FV.cell h0 ((129 + ((Int.toNat (FV.toInt (FV.cell h0 193))) * 8)) + ((Int.toNat x72) * 1))))))) 194)) < 8)) (when (decide (0 ≤ x72) && decide (x72 < 8)) (when (FV.isAg 195 (FV.ag (List.set (FV.toAg h0) 193 (FV.int .i64 (FV.toInt (FV.cell h0 ((129 + ((Int.toNat (FV.toInt (FV.cell h0 193))) * 8)) + ((Int.toNat x72) * 1)))))))) (when (Nat.blt ((65 + ((Int.toNat (FV.toInt (FV.cell (FV.ag (List.set (FV.toAg h0) 193 (FV.int .i64 (FV.toInt (FV.cell h0 ((129 + ((Int.toNat (FV.toInt (FV.cell h0 193))) * 8)) + ((Int.toNat x72) * 1))))))) 194))) * 8)) + ((Int.toNat x72) * 1)) 195) (when (FV.isInt .i64 (FV.cell (FV.ag (List.set (FV.toAg h0) 193 (FV.int .i64 (FV.toInt (FV.cell h0 ((129 + ((Int.toNat (FV.toInt (FV.cell h0 193))) * 8)) + ((Int.toNat x72) * 1))))))) ((65 + ((Int.toNat (FV.toInt (FV.cell (FV.ag (List.set (FV.toAg h0) 193 (FV.int .i64 (FV.toInt (FV.cell h0 ((129 + ((Int.toNat (FV.toInt (FV.cell h0 193))) * 8)) + ((Int.toNat x72) * 1))))))) 194))) * 8)) + ((Int.toNat x72) * 1)))) (when ((FV.isAg 195 (FV.ag (List.set (FV.toAg h0) 193 (FV.int .i64 (FV.toInt (FV.cell h0 ((129 + ((Int.toNat (FV.toInt (FV.cell h0 193))) * 8)) + ((Int.toNat x72) * 1)))))))) && true) (L_level_Lattice_fill_3_0 R k w n x71 (IntKind.wrap .i64 (x72 + 1)) (FV.ag (List.set (FV.toAg (FV.ag (List.set (FV.toAg h0) 193 (FV.int .i64 (FV.toInt (FV.cell h0 ((129 + ((Int.toNat (FV.toInt (FV.cell h0 193))) * 8)) + ((Int.toNat x72) * 1)))))))) 194 (FV.int .i64 (FV.toInt (FV.cell (FV.ag (List.set (FV.toAg h0) 193 (FV.int .i64 (FV.toInt (FV.cell h0 ((129 + ((Int.toNat (FV.toInt (FV.cell h0 193))) * 8)) + ((Int.toNat x72) * 1))))))) ((65 + ((Int.toNat (FV.toInt (FV.cell (FV.ag (List.set (FV.toAg h0) 193 (FV.int .i64 (FV.toInt (FV.cell h0 ((129 + ((Int.toNat (FV.toInt (FV.cell h0 193))) * 8)) + ((Int.toNat x72) * 1))))))) 194))) * 8)) + ((Int.toNat x72) * 1))))))))))))))))))))))))
  (some ((.exit 4), X_level_Lattice_fill_3_0 h0)) := by kernel_rfl
theorem X_level_Lattice_fill_2_1_eq (R : Orc) (k : Nat) (w : Bool) (x1 : Int) (x4 : Bool) (h0 : FV) : K_level_Lattice_fill_2 R k w .ret (X_level_Lattice_fill_2_1 x1 x4 h0) = some ([.fz (FV.bool x4)], [.fz h0]) := by kernel_rfl
theorem X_level_Lattice_fill_3_0_eq (R : Orc) (k : Nat) (w : Bool) (h0 : FV) : K_level_Lattice_fill_3 R k w (.exit 4) (X_level_Lattice_fill_3_0 h0) = some ([.fz (FV.bool true)], [.fz h0]) := by kernel_rfl
/-! (*keyhole/level.Lattice).Size -/
def A_level_Lattice_Size : AFunc := ⟨1, [(.tmp 2, .fz)], .seq (.region [⟨(some 2), .mov (.c (.fz (.int .i64 0))), none, some (.int .i64)⟩])
 (.seq (.seq (.region [⟨(some 3), .mov (.t 0), none, none⟩,
    ⟨(some 4), .eqNil false (.t 3), none, some .bool⟩])
   (.cond (.t 4) (.seq (.region [⟨(some 2), .mov (.c (.fz (.int .i64 0))), none, some (.int .i64)⟩])
     (.ret))
    (.skip)))
  (.seq (.region [⟨(some 5), .mov (.t 0), none, none⟩,
    ⟨(some 6), .nilck (.t 5), none, none⟩,
    ⟨(some 7), .fadr 0 (.t 6), none, none⟩,
    ⟨(some 8), .load 1 false (.t 7), none, none⟩,
    ⟨(some 9), .len (.sl 1 false) (.t 8), none, some (.int .i64)⟩,
    ⟨(some 2), .mov (.t 9), none, some (.int .i64)⟩])
   (.ret)))⟩
theorem E_level_Lattice_Size (R : Orc) (k : Nat) (w : Bool) (a0 : FV) : callL R k w A_level_Lattice_Size [.fz (FV.pt 195 true a0 0)] = when (FV.isAg 195 a0) (when (FV.isSl (FV.cell a0 0)) (some ([.fz (FV.int .i64 (List.length (FV.toSl (FV.cell a0 0)) : Int))], []))) := by kernel_rfl
/-! (*keyhole/level.Lattice).Top -/
def A_level_Lattice_Top : AFunc := ⟨1, [(.tmp 2, .fz)], .seq (.region [⟨(some 2), .mov (.c (.fz (.int .i64 0))), none, some (.int .i64)⟩])
 (.seq (.seq (.region [⟨(some 3), .mov (.t 0), none, none⟩,
    ⟨(some 4), .eqNil false (.t 3), none, some .bool⟩])
   (.cond (.t 4) (.seq (.region [⟨(some 2), .mov (.c (.fz (.int .i64 0))), none, some (.int .i64)⟩])
     (.ret))
    (.skip)))
  (.seq (.region [⟨(some 5), .mov (.t 0), none, none⟩,
    ⟨(some 6), .nilck (.t 5), none, none⟩,
    ⟨(some 7), .fadr 194 (.t 6), none, none⟩,
    ⟨(some 8), .load 1 false (.t 7), none, some (.int .i64)⟩,
    ⟨(some 2), .mov (.t 8), none, some (.int .i64)⟩])
   (.ret)))⟩
theorem E_level_Lattice_Top (R : Orc) (k : Nat) (w : Bool) (a0 : FV) : callL R k w A_level_Lattice_Top [.fz (FV.pt 195 true a0 0)] = when (FV.isAg 195 a0) (when (FV.isInt .i64 (FV.cell a0 194)) (some ([.fz (FV.int .i64 (FV.toInt (FV.cell a0 194)))], []))) := by kernel_rfl
/-! keyhole/level.Name -/
def A_level_Name_j1 : ACode := .seq (.region [⟨(some 34), .mov (.t 5), none, some .bool⟩,
  ⟨(some 35), .notB (.t 34), none, some .bool⟩,
  ⟨(some 36), .mov (.t 35), none, some .bool⟩,
  ⟨(some 37), .mov (.t 6), (some (36, true)), some .bool⟩,
  ⟨(some 38), .notB (.t 37), (some (36, true)), some .bool⟩,
  ⟨(some 39), .mov (.t 38), (some (36, true)), some .bool⟩,
  ⟨(some 40), .mov (.t 3), (some (39, false)), some (.int .i64)⟩,
  ⟨(some 41), .binI .eql .i64 (.t 40) (.c (.fz (.int .i64 0))), (some (39, false)), some .bool⟩,
  ⟨(some 42), .pick (.t 39) (.c (.fz (.bool true))) (.t 41), (some (36, true)), some .bool⟩,
  ⟨(some 43), .pick (.t 36) (.t 42) (.c (.fz (.bool false))), none, some .bool⟩])
 (.cond (.t 43) (.seq (.region [⟨(some 2), .mov (.c (.fz (.bool false))), none, some .bool⟩])
   (.ret))
  (.skip))
def A_level_Name_j2 : ACode := .seq (.region [⟨(some 28), .mov (.t 4), none, some (.int .u8)⟩,
  ⟨(some 29), .binI .geq .u8 (.t 28) (.c (.fz (.int .u8 48))), none, some .bool⟩,
  ⟨(some 30), .mov (.t 29), none, some .bool⟩,
  ⟨(some 31), .mov (.t 4), (some (30, true)), some (.int .u8)⟩,
  ⟨(some 32), .binI .leq .u8 (.t 31) (.c (.fz (.int .u8 57))), (some (30, true)), some .bool⟩,
  ⟨(some 33), .pick (.t 30) (.t 32) (.c (.fz (.bool false))), none, some .bool⟩,
  ⟨(some 6), .mov (.t 33), none, some .bool⟩])
 (.trim [0, 3, 5, 6, 15, 16] A_level_Name_j1)
def A_level_Name_s3 : ACode := .region [⟨(some 44), .binI .add .i64 (.t 16) (.c (.fz (.int .i64 1))), none, some (.int .i64)⟩,
 ⟨(some 16), .mov (.t 44), none, some (.int .i64)⟩]
def A_level_Name_b1 : ACode := .seq (.region [⟨(some 17), .binI .lss .i64 (.t 16) (.t 15), none, some .bool⟩])
 (.seq (.cond (.t 17) (.skip)
   (.exit 0))
  (.seq (.block 1 (.seq (.region [⟨(some 18), .mov (.t 16), none, some (.int .i64)⟩,
      ⟨(some 3), .mov (.t 18), none, some (.int .i64)⟩])
     (.seq (.region [⟨(some 19), .mov (.t 0), none, some .str⟩,
       ⟨(some 20), .mov (.t 3), none, some (.int .i64)⟩,
       ⟨(some 21), .index .str (.t 19) (.t 20), none, some (.int .u8)⟩,
       ⟨(some 4), .mov (.t 21), none, some (.int .u8)⟩])
      (.seq (.region [⟨(some 22), .mov (.t 4), none, some (.int .u8)⟩,
        ⟨(some 23), .binI .geq .u8 (.t 22) (.c (.fz (.int .u8 97))), none, some .bool⟩,
        ⟨(some 24), .mov (.t 23), none, some .bool⟩,
        ⟨(some 25), .mov (.t 4), (some (24, true)), some (.int .u8)⟩,
        ⟨(some 26), .binI .leq .u8 (.t 25) (.c (.fz (.int .u8 122))), (some (24, true)), some .bool⟩,
        ⟨(some 27), .pick (.t 24) (.t 26) (.c (.fz (.bool false))), none, some .bool⟩,
        ⟨(some 5), .mov (.t 27), none, some .bool⟩])
       (.trim [0, 3, 4, 5, 15, 16] A_level_Name_j2)))))
   A_level_Name_s3))
def A_level_Name_s4 : ACode := .seq (.region [⟨(some 2), .mov (.c (.fz (.bool true))), none, some .bool⟩])
 (.ret)
def A_level_Name_j5 : ACode := .seq (.seq (.region [⟨(some 14), .mov (.t 0), none, some .str⟩,
   ⟨(some 15), .len .str (.t 14), none, some (.int .i64)⟩,
   ⟨(some 16), .mov (.c (.fz (.int .i64 0))), none, some (.int .i64)⟩])
  (.block 0 (.loop [0, 15, 16] [2] A_level_Name_b1)))
 A_level_Name_s4
def A_level_Name : AFunc := ⟨1, [(.tmp 2, .fz)], .seq (.region [⟨(some 2), .mov (.c (.fz (.bool false))), none, some .bool⟩])
 (.seq (.seq (.region [⟨(some 7), .mov (.t 0), none, some .str⟩,
    ⟨(some 8), .binS .eql (.t 7) (.c (.fz (.str ⟨#[]⟩))), none, some .bool⟩,
    ⟨(some 9), .mov (.t 8), none, some .bool⟩,
    ⟨(some 10), .mov (.t 0), (some (9, false)), some .str⟩,
    ⟨(some 11), .len .str (.t 10), (some (9, false)), some (.int .i64)⟩,
    ⟨(some 12), .binI .gtr .i64 (.t 11) (.c (.fz (.int .i64 16))), (some (9, false)), some .bool⟩,
    ⟨(some 13), .pick (.t 9) (.c (.fz (.bool true))) (.t 12), none, some .bool⟩])
   (.cond (.t 13) (.seq (.region [⟨(some 2), .mov (.c (.fz (.bool false))), none, some .bool⟩])
     (.ret))
    (.skip)))
  (.trim [0] A_level_Name_j5))⟩
def J_level_Name_5_0 (R : Orc) (k : Nat) (w : Bool) (x0 : ByteArray) := execL R k w [] A_level_Name_j5 Ans ⟨[(0, .fz (FV.str x0))], [(4095, .dead)]⟩ (kFin R [(.tmp 2, .fz)] [])
def K_level_Name_1 (R : Orc) (k : Nat) (w : Bool) : AExit → St → Option Ans := (kBlk 0 (kSeq R k w [] A_level_Name_s4 (kFin R [(.tmp 2, .fz)] [])))
def L_level_Name_1_0 (R : Orc) (k : Nat) (w : Bool) (n : Nat) (x0 : ByteArray) (x15 : Int) (x16 : Int) := loopL R k w [] [0, 15, 16] [2] A_level_Name_b1 n ⟨[(0, .fz (FV.str x0)), (15, .fz (FV.int .i64 x15)), (16, .fz (FV.int .i64 x16))], [(4095, .dead)]⟩
def J_level_Name_2_0 (R : Orc) (k : Nat) (w : Bool) (n : Nat) (x0 : ByteArray) (x3 : Int) (x4 : Int) (x5 : Bool) (x15 : Int) (x16 : Int) := execL R k w [] A_level_Name_j2 (AExit × St) ⟨[(0, .fz (FV.str x0)), (3, .fz (FV.int .i64 x3)), (4, .fz (FV.int .u8 x4)), (5, .fz (FV.bool x5)), (15, .fz (FV.int .i64 x15)), (16, .fz (FV.int .i64 x16))], [(4095, .dead)]⟩ (kBlk 1 (kSeq R k w [] A_level_Name_s3 (kLoop R k w [] [0, 15, 16] [2] A_level_Name_b1 n)))
def X_level_Name_1_0 : St := ⟨[], [(4095, .dead)]⟩
def J_level_Name_1_0 (R : Orc) (k : Nat) (w : Bool) (n : Nat) (x0 : ByteArray) (x3 : Int) (x5 : Bool) (x6 : Bool) (x15 : Int) (x16 : Int) := execL R k w [] A_level_Name_j1 (AExit × St) ⟨[(0, .fz (FV.str x0)), (3, .fz (FV.int .i64 x3)), (5, .fz (FV.bool x5)), (6, .fz (FV.bool x6)), (15, .fz (FV.int .i64 x15)), (16, .fz (FV.int .i64 x16))], [(4095, .dead)]⟩ (kBlk 1 (kSeq R k w [] A_level_Name_s3 (kLoop R k w [] [0, 15, 16] [2] A_level_Name_b1 n)))
def X_level_Name_1_1 (x2 : Bool) : St := ⟨[(2, .fz (FV.bool x2))], [(4095, .dead)]⟩
theorem E_level_Name (R : Orc) (k : Nat) (w : Bool) (a0 : ByteArray) : callL R k w A_level_Name [.fz (FV.str a0)] = ifB (ByteArray.toList a0 == ByteArray.toList (⟨#[]⟩ : ByteArray))
  (some ([.fz (FV.bool false)], []))
  (ifB (decide ((ByteArray.size a0 : Int) > 16))
   (some ([.fz (FV.bool false)], []))
   (jump w (J_level_Name_5_0 R k w a0))) := by kernel_rfl
theorem J_level_Name_5_0_eq (R : Orc) (k : Nat) (w : Bool) (x0 : ByteArray) : J_level_Name_5_0 R k w x0 = onL (L_level_Name_1_0 R k w k x0 (ByteArray.size x0 : Int) 0) (K_level_Name_1 R k w) := by kernel_rfl
theorem L_level_Name_1_0_eq (R : Orc) (k : Nat) (w : Bool) (n : Nat) (x0 : ByteArray) (x15 : Int) (x16 : Int) : L_level_Name_1_0 R k w (n + 1) x0 x15 x16 = ifB (decide (x16 < x15))
  (when ((decide (0 ≤ x16)) && (decide (x16 < (ByteArray.size x0 : Int)))) (ifB (decide ((((Array.getD (ByteArray.data x0) (Int.toNat x16) 0).toNat : Nat) : Int) ≥ 97))
   (jump w (J_level_Name_2_0 R k w n x0 x16 (((Array.getD (ByteArray.data x0) (Int.toNat x16) 0).toNat : Nat) : Int) (decide ((((Array.getD (ByteArray.data x0) (Int.toNat x16) 0).toNat : Nat) : Int) ≤ 122)) x15 x16))
   (jump w (J_level_Name_2_0 R k w n x0 x16 (((Array.getD (ByteArray.data x0) (Int.toNat x16) 0).toNat : Nat) : Int) false x15 x16))))
  (some ((.exit 0), X_level_Name_1_0)) := by kernel_rfl
theorem J_level_Name_2_0_eq (R : Orc) (k : Nat) (w : Bool) (n : Nat) (x0 : ByteArray) (x3 : Int) (x4 : Int) (x5 : Bool) (x15 : Int) (x16 : Int) : J_level_Name_2_0 R k w n x0 x3 x4 x5 x15 x16 = ifB (decide (x4 ≥ 48))
  (jump w (J_level_Name_1_0 R k w n x0 x3 x5 (decide (x4 ≤ 57)) x15 x16))
  (jump w (J_level_Name_1_0 R k w n x0 x3 x5 false x15 x16)) := by kernel_rfl
theorem X_level_Name_1_0_eq (R : Orc) (k : Nat) (w : Bool) : K_level_Name_1 R k w (.exit 0) (X_level_Name_1_0) = some ([.fz (FV.bool true)], []) := by kernel_rfl
theorem J_level_Name_1_0_eq (R : Orc) (k : Nat) (w : Bool) (n : Nat) (x0 : ByteArray) (x3 : Int) (x5 : Bool) (x6 : Bool) (x15 : Int) (x16 : Int) : J_level_Name_1_0 R k w n x0 x3 x5 x6 x15 x16 = ifB (!x5)
  (ifB (!x6)
   (some (.ret, X_level_Name_1_1 false))
   (ifB (x3 == 0)
    (some (.ret, X_level_Name_1_1 false))
    (L_level_Name_1_0 R k w n x0 x15 (IntKind.wrap .i64 (x16 + 1)))))
  (L_level_Name_1_0 R k w n x0 x15 (IntKind.wrap .i64 (x16 + 1))) := by kernel_rfl
theorem X_level_Name_1_1_eq (R : Orc) (k : Nat) (w : Bool) (x2 : Bool) : K_level_Name_1 R k w .ret (X_level_Name_1_1 x2) = some ([.fz (FV.bool x2)], []) := by kernel_rfl
/-! keyhole/level.turned -/
def A_level_turned_b1 : ACode := .seq (.region [⟨(some 10), .binI .lss .i64 (.t 9) (.c (.fz (.int .i64 8))), none, some .bool⟩])
 (.seq (.cond (.t 10) (.skip)
   (.exit 2))
  (.seq (.block 3 (.seq (.region [⟨(some 11), .mov (.t 9), none, some (.int .i64)⟩,
      ⟨(some 5), .mov (.t 11), none, some (.int .i64)⟩])
     (.draws [⟨⟨(some 12), .mov (.t 5), none, some (.int .i64)⟩, []⟩,
      ⟨⟨(some 13), .mov (.t 4), none, some (.int .i64)⟩, []⟩,
      ⟨⟨(some 14), .mov (.t 4), none, some (.int .i64)⟩, []⟩,
      ⟨⟨(some 15), .mov (.t 5), none, some (.int .i64)⟩, []⟩,
      ⟨⟨(some 16), .iadr (.arr 8 8 true) (.t 1) (.t 14), none, none⟩, [2]⟩,
      ⟨⟨(some 17), .iadr (.arr 8 1 false) (.t 16) (.t 15), none, none⟩, [4, 3]⟩,
      ⟨⟨(some 18), .load 1 false (.t 17), none, some .bool⟩, [5]⟩,
      ⟨⟨(some 19), .iadr (.arr 8 8 true) (.t 3) (.t 12), none, none⟩, [0]⟩,
      ⟨⟨(some 20), .iadr (.arr 8 1 false) (.t 19) (.t 13), none, none⟩, [7, 1, 0, 1, 2, 3, 4, 5, 6]⟩,
      ⟨⟨none, .store 1 false (.t 20) (.t 18), none, none⟩, [8, 6, 0, 1, 2, 3, 4, 5, 6]⟩])))
   (.region [⟨(some 21), .binI .add .i64 (.t 9) (.c (.fz (.int .i64 1))), none, some (.int .i64)⟩,
    ⟨(some 9), .mov (.t 21), none, some (.int .i64)⟩])))
def A_level_turned_s1 : ACode := .region [⟨(some 22), .binI .add .i64 (.t 6) (.c (.fz (.int .i64 1))), none, some (.int .i64)⟩,
 ⟨(some 6), .mov (.t 22), none, some (.int .i64)⟩]
def A_level_turned_b2 : ACode := .seq (.region [⟨(some 7), .binI .lss .i64 (.t 6) (.c (.fz (.int .i64 8))), none, some .bool⟩])
 (.seq (.cond (.t 7) (.skip)
   (.exit 0))
  (.seq (.block 1 (.seq (.region [⟨(some 8), .mov (.t 6), none, some (.int .i64)⟩,
      ⟨(some 4), .mov (.t 8), none, some (.int .i64)⟩])
     (.seq (.region [⟨(some 9), .mov (.c (.fz (.int .i64 0))), none, some (.int .i64)⟩])
      (.block 2 (.loop [1, 2, 3, 4, 6, 9] [1, 2, 3, 6] A_level_turned_b1)))))
   A_level_turned_s1))
def A_level_turned_s2 : ACode := .seq (.region [⟨(some 23), .load 64 true (.t 3), none, none⟩,
  ⟨none, .store 64 true (.t 2) (.t 23), none, none⟩])
 (.ret)
def A_level_turned : AFunc := ⟨1, [(.cell 2 64 true, .fz)], .seq (.region [⟨(some 1), .box 64 true (.t 0), none, none⟩,
  ⟨(some 2), .alloc 64 true (.fz (.ag [.bool false, .bool false, .bool false, .bool false, .bool false, .bool false, .bool false, .bool false, .bool false, .bool false, .bool false, .bool false, .bool false, .bool false, .bool false, .bool false, .bool false, .bool false, .bool false, .bool false, .bool false, .bool false, .bool false, .bool false, .bool false, .bool false, .bool false, .bool false, .bool false, .bool false, .bool false, .bool false, .bool false, .bool false, .bool false, .bool false, .bool false, .bool false, .bool false, .bool false, .bool false, .bool false, .bool false, .bool false, .bool false, .bool false, .bool false, .bool false, .bool false, .bool false, .bool false, .bool false, .bool false, .bool false, .bool false, .bool false, .bool false, .bool false, .bool false, .bool false, .bool false, .bool false, .bool false, .bool false])), none, none⟩])
 (.seq (.region [⟨(some 3), .alloc 64 true (.fz (.ag [.bool false, .bool false, .bool false, .bool false, .bool false, .bool false, .bool false, .bool false, .bool false, .bool false, .bool false, .bool false, .bool false, .bool false, .bool false, .bool false, .bool false, .bool false, .bool false, .bool false, .bool false, .bool false, .bool false, .bool false, .bool false, .bool false, .bool false, .bool false, .bool false, .bool false, .bool false, .bool false, .bool false, .bool false, .bool false, .bool false, .bool false, .bool false, .bool false, .bool false, .bool false, .bool false, .bool false, .bool false, .bool false, .bool false, .bool false, .bool false, .bool false, .bool false, .bool false, .bool false, .bool false, .bool false, .bool false, .bool false, .bool false, .bool false, .bool false, .bool false, .bool false, .bool false, .bool false, .bool false])), none, none⟩])
  (.seq (.seq (.region [⟨(some 6), .mov (.c (.fz (.int .i64 0))), none, some (.int .i64)⟩])
    (.block 0 (.loop [1, 2, 3, 6] [2, 3] A_level_turned_b2)))
   A_level_turned_s2))⟩
def K_level_turned_2 (R : Orc) (k : Nat) (w : Bool) : AExit → St → Option Ans := (kBlk 0 (kSeq R k w [] A_level_turned_s2 (kFin R [(.cell 2 64 true, .fz)] [])))
def L_level_turned_2_0 (R : Orc) (k : Nat) (w : Bool) (n : Nat) (x6 : Int) (h4096 : FV) (h4097 : FV) (h4098 : FV) := loopL R k w [] [1, 2, 3, 6] [2, 3] A_level_turned_b2 n ⟨[(1, .ptr 4096 0 0), (2, .ptr 4097 0 0), (3, .ptr 4098 0 0), (6, .fz (FV.int .i64 x6))], [(4095, .dead), (4096, .var 64 true (.fz h4096)), (4097, .var 64 true (.fz h4097)), (4098, .var 64 true (.fz h4098))]⟩
def K_level_turned_1 (R : Orc) (k : Nat) (w : Bool) (n : Nat) : AExit → St → Option (AExit × St) := (kBlk 2 (kBlk 1 (kSeq R k w [] A_level_turned_s1 (kLoop R k w [] [1, 2, 3, 6] [2, 3] A_level_turned_b2 n))))
def L_level_turned_1_0 (R : Orc) (k : Nat) (w : Bool) (n : Nat) (x4 : Int) (x6 : Int) (x9 : Int) (h4096 : FV) (h4097 : FV) (h4098 : FV) := loopL R k w [] [1, 2, 3, 4, 6, 9] [1, 2, 3, 6] A_level_turned_b1 n ⟨[(1, .ptr 4096 0 0), (2, .ptr 4097 0 0), (3, .ptr 4098 0 0), (4, .fz (FV.int .i64 x4)), (6, .fz (FV.int .i64 x6)), (9, .fz (FV.int .i64 x9))], [(4095, .dead), (4096, .var 64 true (.fz h4096)), (4097, .var 64 true (.fz h4097)), (4098, .var 64 true (.fz h4098))]⟩
def X_level_turned_2_0 (h4096 : FV) (h4097 : FV) : St := ⟨[(2, .ptr 4096 0 0), (3, .ptr 4097 0 0)], [(4095, .dead), (4096, .var 64 true (.fz h4096)), (4097, .var 64 true (.fz h4097))]⟩
def X_level_turned_1_0 (x6 : Int) (h4096 : FV) (h4097 : FV) (h4098 : FV) : St := ⟨[(1, .ptr 4096 0 0), (2, .ptr 4097 0 0), (3, .ptr 4098 0 0), (6, .fz (FV.int .i64 x6))], [(4095, .dead), (4096, .var 64 true (.fz h4096)), (4097, .var 64 true (.fz h4097)), (4098, .var 64 true (.fz h4098))]⟩
theorem E_level_turned (R : Orc) (k : Nat) (w : Bool) (a0 : FV) : callL R k w A_level_turned [.fz a0] = when (FV.fits 64 true a0) (onL (L_level_turned_2_0 R k w k 0 a0 (FV.ag [(FV.bool false), (FV.bool false), (FV.bool false), (FV.bool false), (FV.bool false), (FV.bool false), (FV.bool false), (FV.bool false), (FV.bool false), (FV.bool false), (FV.bool false), (FV.bool false), (FV.bool false), (FV.bool false), (FV.bool false), (FV.bool false), (FV.bool false), (FV.bool false), (FV.bool false), (FV.bool false), (FV.bool false), (FV.bool false), (FV.bool false), (FV.bool false), (FV.bool false), (FV.bool false), (FV.bool false), (FV.bool false), (FV.bool false), (FV.bool false), (FV.bool false), (FV.bool false), (FV.bool false), (FV.bool false), (FV.bool false), (FV.bool false), (FV.bool false), (FV.bool false), (FV.bool false), (FV.bool false), (FV.bool false), (FV.bool false), (FV.bool false), (FV.bool false), (FV.bool false), (FV.bool false), (FV.bool false), (FV.bool false), (FV.bool false), (FV.bool false), (FV.bool false), (FV.bool false), (FV.bool false), (FV.bool false), (FV.bool false), (FV.bool false), (FV.bool false), (FV.bool false), (FV.bool false), (FV.bool false), (FV.bool false), (FV.bool false), (FV.bool false), (FV.bool false)]) (FV.ag [(FV.bool false), (FV.bool false), (FV.bool false), (FV.bool false), (FV.bool false), (FV.bool false), (FV.bool false), (FV.bool false), (FV.bool false), (FV.bool false), (FV.bool false), (FV.bool false), (FV.bool false), (FV.bool false), (FV.bool false), (FV.bool false), (FV.bool false), (FV.bool false), (FV.bool false), (FV.bool false), (FV.bool false), (FV.bool false), (FV.bool false), (FV.bool false), (FV.bool false), (FV.bool false), (FV.bool false), (FV.bool false), (FV.bool false), (FV.bool false), (FV.bool false), (FV.bool false), (FV.bool false), (FV.bool false), (FV.bool false), (FV.bool false), (FV.bool false), (FV.bool false), (FV.bool false), (FV.bool false), (FV.bool false), (FV.bool false), (FV.bool false), (FV.bool false), (FV.bool false), (FV.bool false), (FV.bool false), (FV.bool false), (FV.bool false), (FV.bool false), (FV.bool false), (FV.bool false), (FV.bool false), (FV.bool false), (FV.bool false), (FV.bool false), (FV.bool false), (FV.bool false), (FV.bool false), (FV.bool false), (FV.bool false), (FV.bool false), (FV.bool false), (FV.bool false)])) (K_level_turned_2 R k w)) := by kernel_rfl
theorem L_level_turned_2_0_eq (R : Orc) (k : Nat) (w : Bool) (n : Nat) (x6 : Int) (h4096 : FV) (h4097 : FV) (h4098 : FV) : L_level_turned_2_0 R k w (n + 1) x6 h4096 h4097 h4098 = ifB (decide (x6 < 8))
  (onL (L_level_turned_1_0 R k w k x6 x6 0 h4096 h4097 h4098) (K_level_turned_1 R k w n))
  (some ((.exit 0), X_level_turned_2_0 h4097 h4098)) := by kernel_rfl
theorem L_level_turned_1_0_eq (R : Orc) (k : Nat) (w : Bool) (n : Nat) (x4 : Int) (x6 : Int) (x9 : Int) (h4096 : FV) (h4097 : FV) (h4098 : FV) : L_level_turned_1_0 R k w (n + 1) x4 x6 x9 h4096 h4097 h4098 = ifB (decide (x9 < 8))
  (when (decide (0 ≤ x4) && decide (x4 < 8)) (when (decide (0 ≤ x9) && decide (x9 < 8)) (when (FV.isAg 64 h4096) (when (Nat.blt ((0 + ((Int.toNat x4) * 8)) + ((Int.toNat x9) * 1)) 64) (when (FV.isBool (FV.cell h4096 ((0 + ((Int.toNat x4) * 8)) + ((Int.toNat x9) * 1)))) (when (decide (0 ≤ x9) && decide (x9 < 8)) (when (decide (0 ≤ x4) && decide (x4 < 8)) (when ((FV.isAg 64 h4098) && true) (when (Nat.blt ((0 + ((Int.toNat x9) * 8)) + ((Int.toNat x4) * 1)) 64) (L_level_turned_1_0 R k w n x4 x6 (IntKind.wrap .i64 (x9 + 1)) h4096 h4097 (FV.ag (List.set (FV.toAg h4098) ((0 + ((Int.toNat x9) * 8)) + ((Int.toNat x4) * 1)) (FV.bool (FV.toBool (FV.cell h4096 ((0 + ((Int.toNat x4) * 8)) + ((Int.toNat x9) * 1)))))))))))))))))
  (some ((.exit 2), X_level_turned_1_0 x6 h4096 h4097 h4098)) := by kernel_rfl
theorem X_level_turned_2_0_eq (R : Orc) (k : Nat) (w : Bool) (h4096 : FV) (h4097 : FV) : K_level_turned_2 R k w (.exit 0) (X_level_turned_2_0 h4096 h4097) = when (FV.fits 64 true h4097) (some ([.fz h4097], [])) := by kernel_rfl
theorem X_level_turned_1_0_eq (R : Orc) (k : Nat) (w : Bool) (n : Nat) (x6 : Int) (h4096 : FV) (h4097 : FV) (h4098 : FV) : K_level_turned_1 R k w n (.exit 2) (X_level_turned_1_0 x6 h4096 h4097 h4098) = L_level_turned_2_0 R k w n (IntKind.wrap .i64 (x6 + 1)) h4096 h4097 h4098 := by kernel_rfl
/-! keyhole/level.over -/
def A_level_over_b1 : ACode := .seq (.region [⟨(some 32), .binI .lss .i64 (.t 31) (.t 30), none, some .bool⟩])
 (.seq (.cond (.t 32) (.skip)
   (.exit 2))
  (.seq (.block 3 (.seq (.region [⟨(some 33), .mov (.t 31), none, some (.int .i64)⟩,
      ⟨(some 11), .mov (.t 33), none, some (.int .i64)⟩])
     (.region [⟨(some 34), .mov (.t 10), none, some .bool⟩,
      ⟨(some 35), .mov (.t 34), none, some .bool⟩,
      ⟨(some 36), .mov (.t 2), (some (35, true)), some (.int .i64)⟩,
      ⟨(some 37), .mov (.t 11), (some (35, true)), some (.int .i64)⟩,
      ⟨(some 38), .iadr (.arr 8 8 true) (.t 4) (.t 36), (some (35, true)), none⟩,
      ⟨(some 39), .iadr (.arr 8 1 false) (.t 38) (.t 37), (some (35, true)), none⟩,
      ⟨(some 40), .load 1 false (.t 39), (some (35, true)), some .bool⟩,
      ⟨(some 41), .notB (.t 40), (some (35, true)), some .bool⟩,
      ⟨(some 42), .mov (.t 41), (some (35, true)), some .bool⟩,
      ⟨(some 43), .mov (.t 3), (some (42, false)), some (.int .i64)⟩,
      ⟨(some 44), .mov (.t 11), (some (42, false)), some (.int .i64)⟩,
      ⟨(some 45), .iadr (.arr 8 8 true) (.t 4) (.t 43), (some (42, false)), none⟩,
      ⟨(some 46), .iadr (.arr 8 1 false) (.t 45) (.t 44), (some (42, false)), none⟩,
      ⟨(some 47), .load 1 false (.t 46), (some (42, false)), some .bool⟩,
      ⟨(some 48), .notB (.t 47), (some (42, false)), some .bool⟩,
      ⟨(some 49), .pick (.t 42) (.c (.fz (.bool true))) (.t 48), (some (35, true)), some .bool⟩,
      ⟨(some 50), .mov (.t 49), (some (35, true)), some .bool⟩,
      ⟨(some 51), .mov (.t 9), (some (50, false)), some (.int .i64)⟩,
      ⟨(some 52), .mov (.t 11), (some (50, false)), some (.int .i64)⟩,
      ⟨(some 53), .iadr (.arr 8 8 true) (.t 4) (.t 51), (some (50, false)), none⟩,
      ⟨(some 54), .iadr (.arr 8 1 false) (.t 53) (.t 52), (some (50, false)), none⟩,
      ⟨(some 55), .load 1 false (.t 54), (some (50, false)), some .bool⟩,
      ⟨(some 56), .pick (.t 50) (.c (.fz (.bool true))) (.t 55), (some (35, true)), some .bool⟩,
      ⟨(some 57), .pick (.t 35) (.t 56) (.c (.fz (.bool false))), none, some .bool⟩,
      ⟨(some 10), .mov (.t 57), none, some .bool⟩])))
   (.region [⟨(some 58), .binI .add .i64 (.t 31) (.c (.fz (.int .i64 1))), none, some (.int .i64)⟩,
    ⟨(some 31), .mov (.t 58), none, some (.int .i64)⟩])))
def A_level_over_s1 : ACode := .seq (.region [⟨(some 59), .mov (.t 10), none, some .bool⟩])
 (.cond (.t 59) (.seq (.region [⟨(some 60), .mov (.t 9), none, some (.int .i64)⟩,
    ⟨(some 8), .mov (.t 60), none, some (.int .i64)⟩])
   (.ret))
  (.skip))
def A_level_over_j2 : ACode := .seq (.region [⟨(some 10), .mov (.c (.fz (.bool true))), none, some .bool⟩])
 (.seq (.seq (.region [⟨(some 30), .mov (.t 1), none, some (.int .i64)⟩,
    ⟨(some 31), .mov (.c (.fz (.int .i64 0))), none, some (.int .i64)⟩])
   (.block 2 (.loop [1, 2, 3, 4, 9, 10, 12, 13, 30, 31] [1, 2, 3, 4, 9, 10, 12, 13] A_level_over_b1)))
  A_level_over_s1)
def A_level_over_s3 : ACode := .region [⟨(some 61), .binI .add .i64 (.t 13) (.c (.fz (.int .i64 1))), none, some (.int .i64)⟩,
 ⟨(some 13), .mov (.t 61), none, some (.int .i64)⟩]
def A_level_over_b2 : ACode := .seq (.region [⟨(some 14), .binI .lss .i64 (.t 13) (.t 12), none, some .bool⟩])
 (.seq (.cond (.t 14) (.skip)
   (.exit 0))
  (.seq (.block 1 (.seq (.region [⟨(some 15), .mov (.t 13), none, some (.int .i64)⟩,
      ⟨(some 9), .mov (.t 15), none, some (.int .i64)⟩])
     (.seq (.seq (.region [⟨(some 16), .mov (.t 2), none, some (.int .i64)⟩,
        ⟨(some 17), .mov (.t 9), none, some (.int .i64)⟩,
        ⟨(some 18), .iadr (.arr 8 8 true) (.t 4) (.t 16), none, none⟩,
        ⟨(some 19), .iadr (.arr 8 1 false) (.t 18) (.t 17), none, none⟩,
        ⟨(some 20), .load 1 false (.t 19), none, some .bool⟩,
        ⟨(some 21), .notB (.t 20), none, some .bool⟩,
        ⟨(some 22), .mov (.t 21), none, some .bool⟩,
        ⟨(some 23), .mov (.t 3), (some (22, false)), some (.int .i64)⟩,
        ⟨(some 24), .mov (.t 9), (some (22, false)), some (.int .i64)⟩,
        ⟨(some 25), .iadr (.arr 8 8 true) (.t 4) (.t 23), (some (22, false)), none⟩,
        ⟨(some 26), .iadr (.arr 8 1 false) (.t 25) (.t 24), (some (22, false)), none⟩,
        ⟨(some 27), .load 1 false (.t 26), (some (22, false)), some .bool⟩,
        ⟨(some 28), .notB (.t 27), (some (22, false)), some .bool⟩,
        ⟨(some 29), .pick (.t 22) (.c (.fz (.bool true))) (.t 28), none, some .bool⟩])
       (.cond (.t 29) (.exit 1)
        (.skip)))
      (.trim [1, 2, 3, 4, 9, 12, 13] A_level_over_j2))))
   A_level_over_s3))
def A_level_over_s4 : ACode := .seq (.region [⟨(some 8), .mov (.c (.fz (.int .i64 (-1)))), none, some (.int .i64)⟩])
 (.ret)
def A_level_over : AFunc := ⟨4, [(.tmp 8, .fz)], .seq (.region [⟨(some 4), .box 64 true (.t 0), none, none⟩,
  ⟨(some 8), .mov (.c (.fz (.int .i64 0))), none, some (.int .i64)⟩])
 (.seq (.seq (.region [⟨(some 12), .mov (.t 1), none, some (.int .i64)⟩,
    ⟨(some 13), .mov (.c (.fz (.int .i64 0))), none, some (.int .i64)⟩])
   (.block 0 (.loop [1, 2, 3, 4, 12, 13] [8] A_level_over_b2)))
  A_level_over_s4)⟩
def K_level_over_2 (R : Orc) (k : Nat) (w : Bool) : AExit → St → Option Ans := (kBlk 0 (kSeq R k w [] A_level_over_s4 (kFin R [(.tmp 8, .fz)] [])))
def L_level_over_2_0 (R : Orc) (k : Nat) (w : Bool) (n : Nat) (x1 : Int) (x2 : Int) (x3 : Int) (x12 : Int) (x13 : Int) (h4096 : FV) := loopL R k w [] [1, 2, 3, 4, 12, 13] [8] A_level_over_b2 n ⟨[(1, .fz (FV.int .i64 x1)), (2, .fz (FV.int .i64 x2)), (3, .fz (FV.int .i64 x3)), (4, .ptr 4096 0 0), (12, .fz (FV.int .i64 x12)), (13, .fz (FV.int .i64 x13))], [(4095, .dead), (4096, .var 64 true (.fz h4096))]⟩
def J_level_over_2_0 (R : Orc) (k : Nat) (w : Bool) (n : Nat) (x1 : Int) (x2 : Int) (x3 : Int) (x9 : Int) (x12 : Int) (x13 : Int) (h4096 : FV) := execL R k w [] A_level_over_j2 (AExit × St) ⟨[(1, .fz (FV.int .i64 x1)), (2, .fz (FV.int .i64 x2)), (3, .fz (FV.int .i64 x3)), (4, .ptr 4096 0 0), (9, .fz (FV.int .i64 x9)), (12, .fz (FV.int .i64 x12)), (13, .fz (FV.int .i64 x13))], [(4095, .dead), (4096, .var 64 true (.fz h4096))]⟩ (kBlk 1 (kSeq R k w [] A_level_over_s3 (kLoop R k w [] [1, 2, 3, 4, 12, 13] [8] A_level_over_b2 n)))
def X_level_over_2_0 : St := ⟨[], [(4095, .dead)]⟩
def K_level_over_1 (R : Orc) (k : Nat) (w : Bool) (n : Nat) : AExit → St → Option (AExit × St) := (kBlk 2 (kSeq R k w [] A_level_over_s1 (kBlk 1 (kSeq R k w [] A_level_over_s3 (kLoop R k w [] [1, 2, 3, 4, 12, 13] [8] A_level_over_b2 n)))))
def L_level_over_1_0 (R : Orc) (k : Nat) (w : Bool) (n : Nat) (x1 : Int) (x2 : Int) (x3 : Int) (x9 : Int) (x10 : Bool) (x12 : Int) (x13 : Int) (x30 : Int) (x31 : Int) (h4096 : FV) := loopL R k w [] [1, 2, 3, 4, 9, 10, 12, 13, 30, 31] [1, 2, 3, 4, 9, 10, 12, 13] A_level_over_b1 n ⟨[(1, .fz (FV.int .i64 x1)), (2, .fz (FV.int .i64 x2)), (3, .fz (FV.int .i64 x3)), (4, .ptr 4096 0 0), (9, .fz (FV.int .i64 x9)), (10, .fz (FV.bool x10)), (12, .fz (FV.int .i64 x12)), (13, .fz (FV.int .i64 x13)), (30, .fz (FV.int .i64 x30)), (31, .fz (FV.int .i64 x31))], [(4095, .dead), (4096, .var 64 true (.fz h4096))]⟩
def X_level_over_1_0 (x1 : Int) (x2 : Int) (x3 : Int) (x9 : Int) (x10 : Bool) (x12 : Int) (x13 : Int) (h4096 : FV) : St := ⟨[(1, .fz (FV.int .i64 x1)), (2, .fz (FV.int .i64 x2)), (3, .fz (FV.int .i64 x3)), (4, .ptr 4096 0 0), (9, .fz (FV.int .i64 x9)), (10, .fz (FV.bool x10)), (12, .fz (FV.int .i64 x12)), (13, .fz (FV.int .i64 x13))], [(4095, .dead), (4096, .var 64 true (.fz h4096))]⟩
def X_level_over_2_1 (x8 : Int) : St := ⟨[(8, .fz (FV.int .i64 x8))], [(4095, .dead)]⟩
theorem E_level_over (R : Orc) (k : Nat) (w : Bool) (a0 : FV) (a1 : Int) (a2 : Int) (a3 : Int) : callL R k w A_level_over [.fz a0, .fz (FV.int .i64 a1), .fz (FV.int .i64 a2), .fz (FV.int .i64 a3)] = when (FV.fits 64 true a0) (onL (L_level_over_2_0 R k w k a1 a2 a3 a1 0 a0) (K_level_over_2 R k w)) := by kernel_rfl
theorem L_level_over_2_0_eq (R : Orc) (k : Nat) (w : Bool) (n : Nat) (x1 : Int) (x2 : Int) (x3 : Int) (x12 : Int) (x13 : Int) (h4096 : FV) : L_level_over_2_0 R k w (n + 1) x1 x2 x3 x12 x13 h4096 = ifB (decide (x13 < x12))
  (when (decide (0 ≤ x2) && decide (x2 < 8)) (when (decide (0 ≤ x13) && decide (x13 < 8)) (when (FV.isAg 64 h4096) (when (Nat.blt ((0 + ((Int.toNat x2) * 8)) + ((Int.toNat x13) * 1)) 64) (when (FV.isBool (FV.cell h4096 ((0 + ((Int.toNat x2) * 8)) + ((Int.toNat x13) * 1)))) (ifB (!(FV.toBool (FV.cell h4096 ((0 + ((Int.toNat x2) * 8)) + ((Int.toNat x13) * 1)))))
   (L_level_over_2_0 R k w n x1 x2 x3 x12 (IntKind.wrap .i64 (x13 + 1)) h4096)
   (when (decide (0 ≤ x3) && decide (x3 < 8)) (when (decide (0 ≤ x13) && decide (x13 < 8)) (when (FV.isAg 64 h4096) (when (Nat.blt ((0 + ((Int.toNat x3) * 8)) + ((Int.toNat x13) * 1)) 64) (when (FV.isBool (FV.cell h4096 ((0 + ((Int.toNat x3) * 8)) + ((Int.toNat x13) * 1)))) (ifB (!(FV.toBool (FV.cell h4096 ((0 + ((Int.toNat x3) * 8)) + ((Int.toNat x13) * 1)))))
    (L_level_over_2_0 R k w n x1 x2 x3 x12 (IntKind.wrap .i64 (x13 + 1)) h4096)
    (jump w (J_level_over_2_0 R k w n x1 x2 x3 x13 x12 x13 h4096))))))))))))))
  (some ((.exit 0), X_level_over_2_0)) := by kernel_rfl
theorem J_level_over_2_0_eq (R : Orc) (k : Nat) (w : Bool) (n : Nat) (x1 : Int) (x2 : Int) (x3 : Int) (x9 : Int) (x12 : Int) (x13 : Int) (h4096 : FV) : J_level_over_2_0 R k w n x1 x2 x3 x9 x12 x13 h4096 = onL (L_level_over_1_0 R k w k x1 x2 x3 x9 true x12 x13 x1 0 h4096) (K_level_over_1 R k w n) := by kernel_rfl
theorem X_level_over_2_0_eq (R : Orc) (k : Nat) (w : Bool) : K_level_over_2 R k w (.exit 0) (X_level_over_2_0) = some ([.fz (FV.int .i64 (-1))], []) := by kernel_rfl
theorem L_level_over_1_0_eq (R : Orc) (k : Nat) (w : Bool) (n : Nat) (x1 : Int) (x2 : Int) (x3 : Int) (x9 : Int) (x10 : Bool) (x12 : Int) (x13 : Int) (x30 : Int) (x31 : Int) (h4096 : FV) : L_level_over_1_0 R k w (n + 1) x1 x2 x3 x9 x10 x12 x13 x30 x31 h4096 = ifB (decide (x31 < x30))
  (ifB x10
   (when (decide (0 ≤ x2) && decide (x2 < 8)) (when (decide (0 ≤ x31) && decide (x31 < 8)) (when (FV.isAg 64 h4096) (when (Nat.blt ((0 + ((Int.toNat x2) * 8)) + ((Int.toNat x31) * 1)) 64) (when (FV.isBool (FV.cell h4096 ((0 + ((Int.toNat x2) * 8)) + ((Int.toNat x31) * 1)))) (ifB (!(FV.toBool (FV.cell h4096 ((0 + ((Int.toNat x2) * 8)) + ((Int.toNat x31) * 1)))))
    (L_level_over_1_0 R k w n x1 x2 x3 x9 true x12 x13 x30 (IntKind.wrap .i64 (x31 + 1)) h4096)
    (when (decide (0 ≤ x3) && decide (x3 < 8)) (when (decide (0 ≤ x31) && decide (x31 < 8)) (when (FV.isAg 64 h4096) (when (Nat.blt ((0 + ((Int.toNat x3) * 8)) + ((Int.toNat x31) * 1)) 64) (when (FV.isBool (FV.cell h4096 ((0 + ((Int.toNat x3) * 8)) + ((Int.toNat x31) * 1)))) (ifB (!(FV.toBool (FV.cell h4096 ((0 + ((Int.toNat x3) * 8)) + ((Int.toNat x31) * 1)))))
     (L_level_over_1_0 R k w n x1 x2 x3 x9 true x12 x13 x30 (IntKind.wrap .i64 (x31 + 1)) h4096)
     (when (decide (0 ≤ x9) && decide (x9 < 8)) (when (decide (0 ≤ x31) && decide (x31 < 8)) (when (FV.isAg 64 h4096) (when (Nat.blt ((0 + ((Int.toNat x9) * 8)) + ((Int.toNat x31) * 1)) 64) (when (FV.isBool (FV.cell h4096 ((0 + ((Int.toNat x9) * 8)) + ((Int.toNat x31) * 1)))) (L_level_over_1_0 R k w n x1 x2 x3 x9 (FV.toBool (FV.cell h4096 ((0 + ((Int.toNat x9) * 8)) + ((Int.toNat x31) * 1)))) x12 x13 x30 (IntKind.wrap .i64 (x31 + 1)) h4096))))))))))))))))))
   (L_level_over_1_0 R k w n x1 x2 x3 x9 false x12 x13 x30 (IntKind.wrap .i64 (x31 + 1)) h4096))
  (some ((.exit 2), X_level_over_1_0 x1 x2 x3 x9 x10 x12 x13 h4096)) := by kernel_rfl
theorem X_level_over_1_0_eq (R : Orc) (k : Nat) (w : Bool) (n : Nat) (x1 : Int) (x2 : Int) (x3 : Int) (x9 : Int) (x10 : Bool) (x12 : Int) (x13 : Int) (h4096 : FV) : K_level_over_1 R k w n (.exit 2) (X_level_over_1_0 x1 x2 x3 x9 x10 x12 x13 h4096) = ifB x10
  (some (.ret, X_level_over_2_1 x9))
  (L_level_over_2_0 R k w n x1 x2 x3 x12 (IntKind.wrap .i64 (x13 + 1)) h4096) := by kernel_rfl
theorem X_level_over_2_1_eq (R : Orc) (k : Nat) (w : Bool) (x8 : Int) : K_level_over_2 R k w .ret (X_level_over_2_1 x8) = some ([.fz (FV.int .i64 x8)], []) := by kernel_rfl
end Go.Ab
