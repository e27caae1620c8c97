-- Written by a program of the session, out of the translation. Lean checks it.
import Derived.Test.YtppkdbgjflnibaaA0
namespace Go.Ab
set_option linter.unusedVariables false
set_option maxRecDepth 100000
/-! keyhole/keyholeref03.Signs -/
def A_ref03_Signs_j1 : ACode := .cond (.t 25) (.region [⟨(some 26), .mov (.t 6), none, some (.int .i64)⟩,
  ⟨(some 27), .binI .sub .i64 (.t 26) (.c (.fz (.int .i64 240))), none, some (.int .i64)⟩,
  ⟨(some 7), .mov (.c (.fz (.int .i64 4))), none, some (.int .i64)⟩,
  ⟨(some 8), .mov (.t 27), none, some (.int .i64)⟩])
 (.seq (.region [⟨(some 28), .mov (.t 6), none, some (.int .i64)⟩,
   ⟨(some 29), .binI .geq .i64 (.t 28) (.c (.fz (.int .i64 224))), none, some .bool⟩])
  (.cond (.t 29) (.region [⟨(some 30), .mov (.t 6), none, some (.int .i64)⟩,
    ⟨(some 31), .binI .sub .i64 (.t 30) (.c (.fz (.int .i64 224))), none, some (.int .i64)⟩,
    ⟨(some 7), .mov (.c (.fz (.int .i64 3))), none, some (.int .i64)⟩,
    ⟨(some 8), .mov (.t 31), none, some (.int .i64)⟩])
   (.seq (.region [⟨(some 32), .mov (.t 6), none, some (.int .i64)⟩,
     ⟨(some 33), .binI .geq .i64 (.t 32) (.c (.fz (.int .i64 192))), none, some .bool⟩])
    (.cond (.t 33) (.region [⟨(some 34), .mov (.t 6), none, some (.int .i64)⟩,
      ⟨(some 35), .binI .sub .i64 (.t 34) (.c (.fz (.int .i64 192))), none, some (.int .i64)⟩,
      ⟨(some 7), .mov (.c (.fz (.int .i64 2))), none, some (.int .i64)⟩,
      ⟨(some 8), .mov (.t 35), none, some (.int .i64)⟩])
     (.skip)))))
def A_ref03_Signs_j2 : ACode := .region [⟨(some 71), .mov (.t 8), none, some (.int .i64)⟩,
 ⟨(some 72), .binI .mul .i64 (.c (.fz (.int .i64 64))) (.t 71), none, some (.int .i64)⟩,
 ⟨(some 73), .mov (.t 10), none, some (.int .i64)⟩,
 ⟨(some 74), .binI .add .i64 (.t 72) (.t 73), none, some (.int .i64)⟩,
 ⟨(some 75), .binI .sub .i64 (.t 74) (.c (.fz (.int .i64 128))), none, some (.int .i64)⟩,
 ⟨(some 8), .mov (.t 75), none, some (.int .i64)⟩]
def A_ref03_Signs_s3 : ACode := .region [⟨(some 57), .mov (.t 9), none, some (.int .i64)⟩,
 ⟨(some 58), .binI .add .i64 (.t 57) (.c (.fz (.int .i64 1))), none, some (.int .i64)⟩,
 ⟨(some 9), .mov (.t 58), none, some (.int .i64)⟩]
def A_ref03_Signs_b1 : ACode := .seq (.seq (.region [⟨(some 54), .mov (.t 9), none, some (.int .i64)⟩,
   ⟨(some 55), .mov (.t 7), none, some (.int .i64)⟩,
   ⟨(some 56), .binI .lss .i64 (.t 54) (.t 55), none, some .bool⟩])
  (.cond (.t 56) (.skip)
   (.exit 2)))
 (.seq (.block 3 (.seq (.region [⟨(some 59), .mov (.t 0), none, some .str⟩,
     ⟨(some 60), .mov (.t 5), none, some (.int .i64)⟩,
     ⟨(some 61), .mov (.t 9), none, some (.int .i64)⟩,
     ⟨(some 62), .binI .add .i64 (.t 60) (.t 61), none, some (.int .i64)⟩,
     ⟨(some 63), .index .str (.t 59) (.t 62), none, some (.int .u8)⟩,
     ⟨(some 64), .conv .u8 .i64 (.t 63), none, some (.int .i64)⟩,
     ⟨(some 10), .mov (.t 64), none, some (.int .i64)⟩])
    (.seq (.seq (.region [⟨(some 65), .mov (.t 10), none, some (.int .i64)⟩,
       ⟨(some 66), .binI .lss .i64 (.t 65) (.c (.fz (.int .i64 128))), none, some .bool⟩,
       ⟨(some 67), .mov (.t 66), none, some .bool⟩,
       ⟨(some 68), .mov (.t 10), (some (67, false)), some (.int .i64)⟩,
       ⟨(some 69), .binI .gtr .i64 (.t 68) (.c (.fz (.int .i64 191))), (some (67, false)), some .bool⟩,
       ⟨(some 70), .pick (.t 67) (.c (.fz (.bool true))) (.t 69), none, some .bool⟩])
      (.cond (.t 70) (.seq (.region [⟨(some 2), .mov (.c (.nils)), none, none⟩,
         ⟨(some 3), .mov (.c (.fz (.bool false))), none, some .bool⟩])
        (.ret))
       (.skip)))
     (.trim [0, 4, 5, 7, 8, 9, 10] A_ref03_Signs_j2))))
  A_ref03_Signs_s3)
def A_ref03_Signs_j4 : ACode := .seq (.region [⟨(some 98), .mov (.t 4), none, none⟩,
  ⟨(some 99), .mov (.t 8), none, some (.int .i64)⟩,
  ⟨(some 100), .buildSl 1 false 1 (.int .i64 0) [(0, (.t 99))], none, none⟩,
  ⟨(some 101), .append 1 false 8 false (.t 98) (.t 100), none, none⟩,
  ⟨(some 4), .mov (.t 101), none, none⟩])
 (.region [⟨(some 102), .mov (.t 5), none, some (.int .i64)⟩,
  ⟨(some 103), .mov (.t 7), none, some (.int .i64)⟩,
  ⟨(some 104), .binI .add .i64 (.t 102) (.t 103), none, some (.int .i64)⟩,
  ⟨(some 5), .mov (.t 104), none, some (.int .i64)⟩])
def A_ref03_Signs_s5 : ACode := .seq (.seq (.draws [⟨⟨(some 76), .mov (.t 8), none, some (.int .i64)⟩, []⟩,
   ⟨⟨(some 77), .binI .gtr .i64 (.t 76) (.c (.fz (.int .i64 1114111))), none, some .bool⟩, [0]⟩,
   ⟨⟨(some 78), .mov (.t 77), none, some .bool⟩, [1]⟩,
   ⟨⟨(some 79), .mov (.t 8), (some (78, false)), some (.int .i64)⟩, [2]⟩,
   ⟨⟨(some 80), .binI .geq .i64 (.t 79) (.c (.fz (.int .i64 55296))), (some (78, false)), some .bool⟩, [3, 2]⟩,
   ⟨⟨(some 81), .mov (.t 80), (some (78, false)), some .bool⟩, [4, 2, 2]⟩,
   ⟨⟨(some 82), .mov (.t 8), (some (81, true)), some (.int .i64)⟩, [5]⟩,
   ⟨⟨(some 83), .binI .lss .i64 (.t 82) (.c (.fz (.int .i64 57344))), (some (81, true)), some .bool⟩, [6, 5]⟩,
   ⟨⟨(some 84), .pick (.t 81) (.t 83) (.c (.fz (.bool false))), (some (78, false)), some .bool⟩, [5, 7, 2]⟩,
   ⟨⟨(some 85), .pick (.t 78) (.c (.fz (.bool true))) (.t 84), none, some .bool⟩, [2, 8]⟩,
   ⟨⟨(some 86), .mov (.t 85), none, some .bool⟩, [9, 5]⟩,
   ⟨⟨(some 87), .mov (.t 8), (some (86, false)), some (.int .i64)⟩, [10]⟩,
   ⟨⟨(some 88), .call N_ref03_Put [((.t 87), .fz)] [.fz], (some (86, false)), none⟩, [11, 10, 10]⟩,
   ⟨⟨(some 89), .b2s (.t 88), (some (86, false)), some .str⟩, [12, 10]⟩,
   ⟨⟨(some 90), .mov (.t 0), (some (86, false)), some .str⟩, [10]⟩,
   ⟨⟨(some 91), .mov (.t 5), (some (86, false)), some (.int .i64)⟩, [10]⟩,
   ⟨⟨(some 92), .mov (.t 5), (some (86, false)), some (.int .i64)⟩, [10]⟩,
   ⟨⟨(some 93), .mov (.t 7), (some (86, false)), some (.int .i64)⟩, [10]⟩,
   ⟨⟨(some 94), .binI .add .i64 (.t 92) (.t 93), (some (86, false)), some (.int .i64)⟩, [16, 17, 10]⟩,
   ⟨⟨(some 95), .slice .str (.t 90) (some (.t 91)) (some (.t 94)) none, (some (86, false)), some .str⟩, [14, 15, 18, 10]⟩,
   ⟨⟨(some 96), .binS .neq (.t 89) (.t 95), (some (86, false)), some .bool⟩, [13, 19, 10]⟩,
   ⟨⟨(some 97), .pick (.t 86) (.c (.fz (.bool true))) (.t 96), none, some .bool⟩, [10, 20]⟩])
  (.cond (.t 97) (.seq (.region [⟨(some 2), .mov (.c (.nils)), none, none⟩,
     ⟨(some 3), .mov (.c (.fz (.bool false))), none, some .bool⟩])
    (.ret))
   (.skip)))
 (.trim [0, 4, 5, 7, 8] A_ref03_Signs_j4)
def A_ref03_Signs_j6 : ACode := .seq (.seq (.region [⟨(some 9), .mov (.c (.fz (.int .i64 1))), none, some (.int .i64)⟩])
  (.block 2 (.loop [0, 4, 5, 7, 8, 9] [0, 2, 3, 4, 5, 7, 8] A_ref03_Signs_b1)))
 A_ref03_Signs_s5
def A_ref03_Signs_j7 : ACode := .seq (.seq (.region [⟨(some 36), .mov (.t 6), none, some (.int .i64)⟩,
   ⟨(some 37), .binI .geq .i64 (.t 36) (.c (.fz (.int .i64 248))), none, some .bool⟩,
   ⟨(some 38), .mov (.t 37), none, some .bool⟩,
   ⟨(some 39), .mov (.t 6), (some (38, false)), some (.int .i64)⟩,
   ⟨(some 40), .binI .geq .i64 (.t 39) (.c (.fz (.int .i64 128))), (some (38, false)), some .bool⟩,
   ⟨(some 41), .mov (.t 40), (some (38, false)), some .bool⟩,
   ⟨(some 42), .mov (.t 6), (some (41, true)), some (.int .i64)⟩,
   ⟨(some 43), .binI .lss .i64 (.t 42) (.c (.fz (.int .i64 192))), (some (41, true)), some .bool⟩,
   ⟨(some 44), .pick (.t 41) (.t 43) (.c (.fz (.bool false))), (some (38, false)), some .bool⟩,
   ⟨(some 45), .pick (.t 38) (.c (.fz (.bool true))) (.t 44), none, some .bool⟩,
   ⟨(some 46), .mov (.t 45), none, some .bool⟩,
   ⟨(some 47), .mov (.t 5), (some (46, false)), some (.int .i64)⟩,
   ⟨(some 48), .mov (.t 7), (some (46, false)), some (.int .i64)⟩,
   ⟨(some 49), .binI .add .i64 (.t 47) (.t 48), (some (46, false)), some (.int .i64)⟩,
   ⟨(some 50), .mov (.t 0), (some (46, false)), some .str⟩,
   ⟨(some 51), .len .str (.t 50), (some (46, false)), some (.int .i64)⟩,
   ⟨(some 52), .binI .gtr .i64 (.t 49) (.t 51), (some (46, false)), some .bool⟩,
   ⟨(some 53), .pick (.t 46) (.c (.fz (.bool true))) (.t 52), none, some .bool⟩])
  (.cond (.t 53) (.seq (.region [⟨(some 2), .mov (.c (.nils)), none, none⟩,
     ⟨(some 3), .mov (.c (.fz (.bool false))), none, some .bool⟩])
    (.ret))
   (.skip)))
 (.trim [0, 4, 5, 7, 8] A_ref03_Signs_j6)
def A_ref03_Signs_s8 : ACode := .trim [0, 4, 5, 6, 7, 8] A_ref03_Signs_j7
def A_ref03_Signs_b2 : ACode := .seq (.seq (.region [⟨(some 11), .mov (.t 5), none, some (.int .i64)⟩,
   ⟨(some 12), .mov (.t 0), none, some .str⟩,
   ⟨(some 13), .len .str (.t 12), none, some (.int .i64)⟩,
   ⟨(some 14), .binI .lss .i64 (.t 11) (.t 13), none, some .bool⟩])
  (.cond (.t 14) (.skip)
   (.exit 0)))
 (.block 1 (.seq (.region [⟨(some 15), .mov (.t 0), none, some .str⟩,
    ⟨(some 16), .mov (.t 5), none, some (.int .i64)⟩,
    ⟨(some 17), .index .str (.t 15) (.t 16), none, some (.int .u8)⟩,
    ⟨(some 18), .conv .u8 .i64 (.t 17), none, some (.int .i64)⟩,
    ⟨(some 6), .mov (.t 18), none, some (.int .i64)⟩])
   (.seq (.region [⟨(some 19), .mov (.t 6), none, some (.int .i64)⟩,
     ⟨(some 7), .mov (.c (.fz (.int .i64 1))), none, some (.int .i64)⟩,
     ⟨(some 8), .mov (.t 19), none, some (.int .i64)⟩])
    (.seq (.seq (.region [⟨(some 20), .mov (.t 6), none, some (.int .i64)⟩,
       ⟨(some 21), .binI .geq .i64 (.t 20) (.c (.fz (.int .i64 240))), none, some .bool⟩,
       ⟨(some 22), .mov (.t 21), none, some .bool⟩,
       ⟨(some 23), .mov (.t 6), (some (22, true)), some (.int .i64)⟩,
       ⟨(some 24), .binI .lss .i64 (.t 23) (.c (.fz (.int .i64 248))), (some (22, true)), some .bool⟩,
       ⟨(some 25), .pick (.t 22) (.t 24) (.c (.fz (.bool false))), none, some .bool⟩])
      (.trim [0, 4, 5, 6, 7, 8, 25] A_ref03_Signs_j1))
     A_ref03_Signs_s8))))
def A_ref03_Signs_s9 : ACode := .seq (.region [⟨(some 105), .mov (.t 4), none, none⟩,
  ⟨(some 2), .mov (.t 105), none, none⟩,
  ⟨(some 3), .mov (.c (.fz (.bool true))), none, some .bool⟩])
 (.ret)
def A_ref03_Signs : AFunc := ⟨1, [(.tmp 2, .fz), (.tmp 3, .fz)], .seq (.region [⟨(some 2), .mov (.c (.nils)), none, none⟩,
  ⟨(some 3), .mov (.c (.fz (.bool false))), none, some .bool⟩])
 (.seq (.region [⟨(some 4), .mov (.c (.nils)), none, none⟩])
  (.seq (.seq (.region [⟨(some 5), .mov (.c (.fz (.int .i64 0))), none, some (.int .i64)⟩])
    (.block 0 (.loop [0, 4, 5] [2, 3, 4] A_ref03_Signs_b2)))
   A_ref03_Signs_s9))⟩
def K_ref03_Signs_2 (R : Orc) (k : Nat) (w : Bool) : AExit → St → Option Ans := (kBlk 0 (kSeq R k w [] A_ref03_Signs_s9 (kFin R [(.tmp 2, .fz), (.tmp 3, .fz)] [])))
def L_ref03_Signs_2_0 (R : Orc) (k : Nat) (w : Bool) (n : Nat) (x0 : ByteArray) (x5 : Int) := loopL R k w [] [0, 4, 5] [2, 3, 4] A_ref03_Signs_b2 n ⟨[(0, .fz (FV.str x0)), (4, .nils), (5, .fz (FV.int .i64 x5))], [(4095, .dead)]⟩
def J_ref03_Signs_1_0 (R : Orc) (k : Nat) (w : Bool) (n : Nat) (x0 : ByteArray) (x5 : Int) (x6 : Int) (x7 : Int) (x8 : Int) (x25 : Bool) := execL R k w [] A_ref03_Signs_j1 (AExit × St) ⟨[(0, .fz (FV.str x0)), (4, .nils), (5, .fz (FV.int .i64 x5)), (6, .fz (FV.int .i64 x6)), (7, .fz (FV.int .i64 x7)), (8, .fz (FV.int .i64 x8)), (25, .fz (FV.bool x25))], [(4095, .dead)]⟩ (kSeq R k w [] A_ref03_Signs_s8 (kBlk 1 (kLoop R k w [] [0, 4, 5] [2, 3, 4] A_ref03_Signs_b2 n)))
def X_ref03_Signs_2_0 : St := ⟨[(4, .nils)], [(4095, .dead)]⟩
def J_ref03_Signs_7_0 (R : Orc) (k : Nat) (w : Bool) (n : Nat) (x0 : ByteArray) (x5 : Int) (x6 : Int) (x7 : Int) (x8 : Int) := execL R k w [] A_ref03_Signs_j7 (AExit × St) ⟨[(0, .fz (FV.str x0)), (4, .nils), (5, .fz (FV.int .i64 x5)), (6, .fz (FV.int .i64 x6)), (7, .fz (FV.int .i64 x7)), (8, .fz (FV.int .i64 x8))], [(4095, .dead)]⟩ (kBlk 1 (kLoop R k w [] [0, 4, 5] [2, 3, 4] A_ref03_Signs_b2 n))
def X_ref03_Signs_2_1 (x3 : Bool) : St := ⟨[(2, .nils), (3, .fz (FV.bool x3)), (4, .nils)], [(4095, .dead)]⟩
def J_ref03_Signs_6_0 (R : Orc) (k : Nat) (w : Bool) (n : Nat) (x0 : ByteArray) (x5 : Int) (x7 : Int) (x8 : Int) := execL R k w [] A_ref03_Signs_j6 (AExit × St) ⟨[(0, .fz (FV.str x0)), (4, .nils), (5, .fz (FV.int .i64 x5)), (7, .fz (FV.int .i64 x7)), (8, .fz (FV.int .i64 x8))], [(4095, .dead)]⟩ (kBlk 1 (kLoop R k w [] [0, 4, 5] [2, 3, 4] A_ref03_Signs_b2 n))
def K_ref03_Signs_1 (R : Orc) (k : Nat) (w : Bool) (n : Nat) : AExit → St → Option (AExit × St) := (kBlk 2 (kSeq R k w [] A_ref03_Signs_s5 (kBlk 1 (kLoop R k w [] [0, 4, 5] [2, 3, 4] A_ref03_Signs_b2 n))))
def L_ref03_Signs_1_0 (R : Orc) (k : Nat) (w : Bool) (n : Nat) (x0 : ByteArray) (x5 : Int) (x7 : Int) (x8 : Int) (x9 : Int) := loopL R k w [] [0, 4, 5, 7, 8, 9] [0, 2, 3, 4, 5, 7, 8] A_ref03_Signs_b1 n ⟨[(0, .fz (FV.str x0)), (4, .nils), (5, .fz (FV.int .i64 x5)), (7, .fz (FV.int .i64 x7)), (8, .fz (FV.int .i64 x8)), (9, .fz (FV.int .i64 x9))], [(4095, .dead)]⟩
def X_ref03_Signs_1_0 (x0 : ByteArray) (x3 : Bool) (x5 : Int) (x7 : Int) (x8 : Int) : St := ⟨[(0, .fz (FV.str x0)), (2, .nils), (3, .fz (FV.bool x3)), (4, .nils), (5, .fz (FV.int .i64 x5)), (7, .fz (FV.int .i64 x7)), (8, .fz (FV.int .i64 x8))], [(4095, .dead)]⟩
def J_ref03_Signs_2_0 (R : Orc) (k : Nat) (w : Bool) (n : Nat) (x0 : ByteArray) (x5 : Int) (x7 : Int) (x8 : Int) (x9 : Int) (x10 : Int) := execL R k w [] A_ref03_Signs_j2 (AExit × St) ⟨[(0, .fz (FV.str x0)), (4, .nils), (5, .fz (FV.int .i64 x5)), (7, .fz (FV.int .i64 x7)), (8, .fz (FV.int .i64 x8)), (9, .fz (FV.int .i64 x9)), (10, .fz (FV.int .i64 x10))], [(4095, .dead)]⟩ (kBlk 3 (kSeq R k w [] A_ref03_Signs_s3 (kLoop R k w [] [0, 4, 5, 7, 8, 9] [0, 2, 3, 4, 5, 7, 8] A_ref03_Signs_b1 n)))
def X_ref03_Signs_1_1 (x0 : ByteArray) (x5 : Int) (x7 : Int) (x8 : Int) : St := ⟨[(0, .fz (FV.str x0)), (4, .nils), (5, .fz (FV.int .i64 x5)), (7, .fz (FV.int .i64 x7)), (8, .fz (FV.int .i64 x8))], [(4095, .dead)]⟩
def J_ref03_Signs_4_0 (R : Orc) (k : Nat) (w : Bool) (n : Nat) (x0 : ByteArray) (x5 : Int) (x7 : Int) (x8 : Int) := execL R k w [] A_ref03_Signs_j4 (AExit × St) ⟨[(0, .fz (FV.str x0)), (4, .nils), (5, .fz (FV.int .i64 x5)), (7, .fz (FV.int .i64 x7)), (8, .fz (FV.int .i64 x8))], [(4095, .dead)]⟩ (kBlk 1 (kLoop R k w [] [0, 4, 5] [2, 3, 4] A_ref03_Signs_b2 n))
def L_ref03_Signs_2_1 (R : Orc) (k : Nat) (w : Bool) (n : Nat) (x0 : ByteArray) (x5 : Int) (h4096 : List FV) := loopL R k w [] [0, 4, 5] [2, 3, 4] A_ref03_Signs_b2 n ⟨[(0, .fz (FV.str x0)), (4, .rw 4096), (5, .fz (FV.int .i64 x5))], [(4095, .dead), (4096, .row 1 false h4096)]⟩
def J_ref03_Signs_1_1 (R : Orc) (k : Nat) (w : Bool) (n : Nat) (x0 : ByteArray) (x5 : Int) (x6 : Int) (x7 : Int) (x8 : Int) (x25 : Bool) (h4096 : List FV) := execL R k w [] A_ref03_Signs_j1 (AExit × St) ⟨[(0, .fz (FV.str x0)), (4, .rw 4096), (5, .fz (FV.int .i64 x5)), (6, .fz (FV.int .i64 x6)), (7, .fz (FV.int .i64 x7)), (8, .fz (FV.int .i64 x8)), (25, .fz (FV.bool x25))], [(4095, .dead), (4096, .row 1 false h4096)]⟩ (kSeq R k w [] A_ref03_Signs_s8 (kBlk 1 (kLoop R k w [] [0, 4, 5] [2, 3, 4] A_ref03_Signs_b2 n)))
def X_ref03_Signs_2_2 (h4096 : List FV) : St := ⟨[(4, .rw 4096)], [(4095, .dead), (4096, .row 1 false h4096)]⟩
def J_ref03_Signs_7_1 (R : Orc) (k : Nat) (w : Bool) (n : Nat) (x0 : ByteArray) (x5 : Int) (x6 : Int) (x7 : Int) (x8 : Int) (h4096 : List FV) := execL R k w [] A_ref03_Signs_j7 (AExit × St) ⟨[(0, .fz (FV.str x0)), (4, .rw 4096), (5, .fz (FV.int .i64 x5)), (6, .fz (FV.int .i64 x6)), (7, .fz (FV.int .i64 x7)), (8, .fz (FV.int .i64 x8))], [(4095, .dead), (4096, .row 1 false h4096)]⟩ (kBlk 1 (kLoop R k w [] [0, 4, 5] [2, 3, 4] A_ref03_Signs_b2 n))
def X_ref03_Signs_2_3 (x3 : Bool) (h4096 : List FV) : St := ⟨[(2, .nils), (3, .fz (FV.bool x3)), (4, .rw 4096)], [(4095, .dead), (4096, .row 1 false h4096)]⟩
def J_ref03_Signs_6_1 (R : Orc) (k : Nat) (w : Bool) (n : Nat) (x0 : ByteArray) (x5 : Int) (x7 : Int) (x8 : Int) (h4096 : List FV) := execL R k w [] A_ref03_Signs_j6 (AExit × St) ⟨[(0, .fz (FV.str x0)), (4, .rw 4096), (5, .fz (FV.int .i64 x5)), (7, .fz (FV.int .i64 x7)), (8, .fz (FV.int .i64 x8))], [(4095, .dead), (4096, .row 1 false h4096)]⟩ (kBlk 1 (kLoop R k w [] [0, 4, 5] [2, 3, 4] A_ref03_Signs_b2 n))
def L_ref03_Signs_1_1 (R : Orc) (k : Nat) (w : Bool) (n : Nat) (x0 : ByteArray) (x5 : Int) (x7 : Int) (x8 : Int) (x9 : Int) (h4096 : List FV) := loopL R k w [] [0, 4, 5, 7, 8, 9] [0, 2, 3, 4, 5, 7, 8] A_ref03_Signs_b1 n ⟨[(0, .fz (FV.str x0)), (4, .rw 4096), (5, .fz (FV.int .i64 x5)), (7, .fz (FV.int .i64 x7)), (8, .fz (FV.int .i64 x8)), (9, .fz (FV.int .i64 x9))], [(4095, .dead), (4096, .row 1 false h4096)]⟩
def X_ref03_Signs_1_2 (x0 : ByteArray) (x3 : Bool) (x5 : Int) (x7 : Int) (x8 : Int) (h4096 : List FV) : St := ⟨[(0, .fz (FV.str x0)), (2, .nils), (3, .fz (FV.bool x3)), (4, .rw 4096), (5, .fz (FV.int .i64 x5)), (7, .fz (FV.int .i64 x7)), (8, .fz (FV.int .i64 x8))], [(4095, .dead), (4096, .row 1 false h4096)]⟩
def J_ref03_Signs_2_1 (R : Orc) (k : Nat) (w : Bool) (n : Nat) (x0 : ByteArray) (x5 : Int) (x7 : Int) (x8 : Int) (x9 : Int) (x10 : Int) (h4096 : List FV) := execL R k w [] A_ref03_Signs_j2 (AExit × St) ⟨[(0, .fz (FV.str x0)), (4, .rw 4096), (5, .fz (FV.int .i64 x5)), (7, .fz (FV.int .i64 x7)), (8, .fz (FV.int .i64 x8)), (9, .fz (FV.int .i64 x9)), (10, .fz (FV.int .i64 x10))], [(4095, .dead), (4096, .row 1 false h4096)]⟩ (kBlk 3 (kSeq R k w [] A_ref03_Signs_s3 (kLoop R k w [] [0, 4, 5, 7, 8, 9] [0, 2, 3, 4, 5, 7, 8] A_ref03_Signs_b1 n)))
def X_ref03_Signs_1_3 (x0 : ByteArray) (x5 : Int) (x7 : Int) (x8 : Int) (h4096 : List FV) : St := ⟨[(0, .fz (FV.str x0)), (4, .rw 4096), (5, .fz (FV.int .i64 x5)), (7, .fz (FV.int .i64 x7)), (8, .fz (FV.int .i64 x8))], [(4095, .dead), (4096, .row 1 false h4096)]⟩
def J_ref03_Signs_4_1 (R : Orc) (k : Nat) (w : Bool) (n : Nat) (x0 : ByteArray) (x5 : Int) (x7 : Int) (x8 : Int) (h4096 : List FV) := execL R k w [] A_ref03_Signs_j4 (AExit × St) ⟨[(0, .fz (FV.str x0)), (4, .rw 4096), (5, .fz (FV.int .i64 x5)), (7, .fz (FV.int .i64 x7)), (8, .fz (FV.int .i64 x8))], [(4095, .dead), (4096, .row 1 false h4096)]⟩ (kBlk 1 (kLoop R k w [] [0, 4, 5] [2, 3, 4] A_ref03_Signs_b2 n))
theorem E_ref03_Signs (R : Orc) (k : Nat) (w : Bool) (a0 : ByteArray) : callL R k w A_ref03_Signs [.fz (FV.str a0)] = onL (L_ref03_Signs_2_0 R k w k a0 0) (K_ref03_Signs_2 R k w) := by kernel_rfl
theorem L_ref03_Signs_2_0_eq (R : Orc) (k : Nat) (w : Bool) (n : Nat) (x0 : ByteArray) (x5 : Int) : L_ref03_Signs_2_0 R k w (n + 1) x0 x5 = ifB (decide (x5 < (ByteArray.size x0 : Int)))
  (when ((decide (0 ≤ x5)) && (decide (x5 < (ByteArray.size x0 : Int)))) (ifB (decide ((IntKind.wrap .i64 (((Array.getD (ByteArray.data x0) (Int.toNat x5) 0).toNat : Nat) : Int)) ≥ 240))
   (jump w (J_ref03_Signs_1_0 R k w n x0 x5 (IntKind.wrap .i64 (((Array.getD (ByteArray.data x0) (Int.toNat x5) 0).toNat : Nat) : Int)) 1 (IntKind.wrap .i64 (((Array.getD (ByteArray.data x0) (Int.toNat x5) 0).toNat : Nat) : Int)) (decide ((IntKind.wrap .i64 (((Array.getD (ByteArray.data x0) (Int.toNat x5) 0).toNat : Nat) : Int)) < 248))))
   (jump w (J_ref03_Signs_1_0 R k w n x0 x5 (IntKind.wrap .i64 (((Array.getD (ByteArray.data x0) (Int.toNat x5) 0).toNat : Nat) : Int)) 1 (IntKind.wrap .i64 (((Array.getD (ByteArray.data x0) (Int.toNat x5) 0).toNat : Nat) : Int)) false))))
  (some ((.exit 0), X_ref03_Signs_2_0)) := by kernel_rfl
theorem J_ref03_Signs_1_0_eq (R : Orc) (k : Nat) (w : Bool) (n : Nat) (x0 : ByteArray) (x5 : Int) (x6 : Int) (x7 : Int) (x8 : Int) (x25 : Bool) : J_ref03_Signs_1_0 R k w n x0 x5 x6 x7 x8 x25 = ifB x25
  (jump w (J_ref03_Signs_7_0 R k w n x0 x5 x6 4 (IntKind.wrap .i64 (x6 - 240))))
  (ifB (decide (x6 ≥ 224))
   (jump w (J_ref03_Signs_7_0 R k w n x0 x5 x6 3 (IntKind.wrap .i64 (x6 - 224))))
   (ifB (decide (x6 ≥ 192))
    (jump w (J_ref03_Signs_7_0 R k w n x0 x5 x6 2 (IntKind.wrap .i64 (x6 - 192))))
    (jump w (J_ref03_Signs_7_0 R k w n x0 x5 x6 x7 x8)))) := by kernel_rfl
theorem X_ref03_Signs_2_0_eq (R : Orc) (k : Nat) (w : Bool) : K_ref03_Signs_2 R k w (.exit 0) (X_ref03_Signs_2_0) = some ([.fz (FV.sl []), .fz (FV.bool true)], []) := by kernel_rfl
theorem J_ref03_Signs_7_0_eq (R : Orc) (k : Nat) (w : Bool) (n : Nat) (x0 : ByteArray) (x5 : Int) (x6 : Int) (x7 : Int) (x8 : Int) : J_ref03_Signs_7_0 R k w n x0 x5 x6 x7 x8 = ifB (decide (x6 ≥ 248))
  (some (.ret, X_ref03_Signs_2_1 false))
  (ifB (decide (x6 ≥ 128))
   (ifB (decide (x6 < 192))
    (some (.ret, X_ref03_Signs_2_1 false))
    (ifB (decide ((IntKind.wrap .i64 (x5 + x7)) > (ByteArray.size x0 : Int)))
     (some (.ret, X_ref03_Signs_2_1 false))
     (jump w (J_ref03_Signs_6_0 R k w n x0 x5 x7 x8))))
   (ifB (decide ((IntKind.wrap .i64 (x5 + x7)) > (ByteArray.size x0 : Int)))
    (some (.ret, X_ref03_Signs_2_1 false))
    (jump w (J_ref03_Signs_6_0 R k w n x0 x5 x7 x8)))) := by kernel_rfl
theorem X_ref03_Signs_2_1_eq (R : Orc) (k : Nat) (w : Bool) (x3 : Bool) : K_ref03_Signs_2 R k w .ret (X_ref03_Signs_2_1 x3) = some ([.fz (FV.sl []), .fz (FV.bool x3)], []) := by kernel_rfl
theorem J_ref03_Signs_6_0_eq (R : Orc) (k : Nat) (w : Bool) (n : Nat) (x0 : ByteArray) (x5 : Int) (x7 : Int) (x8 : Int) : J_ref03_Signs_6_0 R k w n x0 x5 x7 x8 = onL (L_ref03_Signs_1_0 R k w k x0 x5 x7 x8 1) (K_ref03_Signs_1 R k w n) := by kernel_rfl
theorem L_ref03_Signs_1_0_eq (R : Orc) (k : Nat) (w : Bool) (n : Nat) (x0 : ByteArray) (x5 : Int) (x7 : Int) (x8 : Int) (x9 : Int) : L_ref03_Signs_1_0 R k w (n + 1) x0 x5 x7 x8 x9 = ifB (decide (x9 < x7))
  (when ((decide (0 ≤ (IntKind.wrap .i64 (x5 + x9)))) && (decide ((IntKind.wrap .i64 (x5 + x9)) < (ByteArray.size x0 : Int)))) (ifB (decide ((IntKind.wrap .i64 (((Array.getD (ByteArray.data x0) (Int.toNat (IntKind.wrap .i64 (x5 + x9))) 0).toNat : Nat) : Int)) < 128))
   (some (.ret, X_ref03_Signs_1_0 x0 false x5 x7 x8))
   (ifB (decide ((IntKind.wrap .i64 (((Array.getD (ByteArray.data x0) (Int.toNat (IntKind.wrap .i64 (x5 + x9))) 0).toNat : Nat) : Int)) > 191))
    (some (.ret, X_ref03_Signs_1_0 x0 false x5 x7 x8))
    (jump w (J_ref03_Signs_2_0 R k w n x0 x5 x7 x8 x9 (IntKind.wrap .i64 (((Array.getD (ByteArray.data x0) (Int.toNat (IntKind.wrap .i64 (x5 + x9))) 0).toNat : Nat) : Int)))))))
  (some ((.exit 2), X_ref03_Signs_1_1 x0 x5 x7 x8)) := by kernel_rfl
theorem X_ref03_Signs_1_0_eq (R : Orc) (k : Nat) (w : Bool) (n : Nat) (x0 : ByteArray) (x3 : Bool) (x5 : Int) (x7 : Int) (x8 : Int) : K_ref03_Signs_1 R k w n .ret (X_ref03_Signs_1_0 x0 x3 x5 x7 x8) = some (.ret, X_ref03_Signs_2_1 x3) := by kernel_rfl
theorem J_ref03_Signs_2_0_eq (R : Orc) (k : Nat) (w : Bool) (n : Nat) (x0 : ByteArray) (x5 : Int) (x7 : Int) (x8 : Int) (x9 : Int) (x10 : Int) : J_ref03_Signs_2_0 R k w n x0 x5 x7 x8 x9 x10 = L_ref03_Signs_1_0 R k w n x0 x5 x7 (IntKind.wrap .i64 ((IntKind.wrap .i64 ((IntKind.wrap .i64 (64 * x8)) + x10)) - 128)) (IntKind.wrap .i64 (x9 + 1)) := by kernel_rfl
theorem X_ref03_Signs_1_1_eq (R : Orc) (k : Nat) (w : Bool) (n : Nat) (x0 : ByteArray) (x5 : Int) (x7 : Int) (x8 : Int) : K_ref03_Signs_1 R k w n (.exit 2) (X_ref03_Signs_1_1 x0 x5 x7 x8) = ifB (decide (x8 > 1114111))
  (some (.ret, X_ref03_Signs_2_1 false))
  (ifB (decide (x8 ≥ 55296))
   (ifB (decide (x8 < 57344))
    (some (.ret, X_ref03_Signs_2_1 false))
    (onR (R N_ref03_Put [.fz (FV.int .i64 x8)]) fun r0 => when (List.isEmpty r0.2 && allF [.fz] r0.1) (when ((FV.isSl (TV.toF (List.getD r0.1 0 TV.em))) && (List.all (FV.toSl (TV.toF (List.getD r0.1 0 TV.em))) (FV.fits 1 false))) (when (List.all (FV.toSl (TV.toF (List.getD r0.1 0 TV.em))) (FV.isInt .u8)) (when (decide (0 ≤ (IntKind.wrap .i64 (x5 + x7))) && decide ((IntKind.wrap .i64 (x5 + x7)) ≤ (ByteArray.size x0 : Int))) (when (decide (0 ≤ x5) && decide (x5 ≤ (IntKind.wrap .i64 (x5 + x7)))) (ifB (!(ByteArray.toList (⟨(List.map (fun e => UInt8.ofNat (FV.toInt e).toNat) (FV.toSl (TV.toF (List.getD r0.1 0 TV.em)))).toArray⟩ : ByteArray) == ByteArray.toList (ByteArray.extract x0 (Int.toNat x5) (Int.toNat (IntKind.wrap .i64 (x5 + x7))))))
     (some (.ret, X_ref03_Signs_2_1 false))
     (jump w (J_ref03_Signs_4_0 R k w n x0 x5 x7 x8)))))))))
   (onR (R N_ref03_Put [.fz (FV.int .i64 x8)]) fun r1 => when (List.isEmpty r1.2 && allF [.fz] r1.1) (when ((FV.isSl (TV.toF (List.getD r1.1 0 TV.em))) && (List.all (FV.toSl (TV.toF (List.getD r1.1 0 TV.em))) (FV.fits 1 false))) (when (List.all (FV.toSl (TV.toF (List.getD r1.1 0 TV.em))) (FV.isInt .u8)) (when (decide (0 ≤ (IntKind.wrap .i64 (x5 + x7))) && decide ((IntKind.wrap .i64 (x5 + x7)) ≤ (ByteArray.size x0 : Int))) (when (decide (0 ≤ x5) && decide (x5 ≤ (IntKind.wrap .i64 (x5 + x7)))) (ifB (!(ByteArray.toList (⟨(List.map (fun e => UInt8.ofNat (FV.toInt e).toNat) (FV.toSl (TV.toF (List.getD r1.1 0 TV.em)))).toArray⟩ : ByteArray) == ByteArray.toList (ByteArray.extract x0 (Int.toNat x5) (Int.toNat (IntKind.wrap .i64 (x5 + x7))))))
    (some (.ret, X_ref03_Signs_2_1 false))
    (jump w (J_ref03_Signs_4_0 R k w n x0 x5 x7 x8))))))))) := by kernel_rfl
theorem J_ref03_Signs_4_0_eq (R : Orc) (k : Nat) (w : Bool) (n : Nat) (x0 : ByteArray) (x5 : Int) (x7 : Int) (x8 : Int) : J_ref03_Signs_4_0 R k w n x0 x5 x7 x8 = when (decide (((0 : Nat) + List.length [(FV.int .i64 x8)]) * 8 ≤ roomy) && decide ((0 : Nat) + List.length [(FV.int .i64 x8)] ≤ roomy)) (L_ref03_Signs_2_1 R k w n x0 (IntKind.wrap .i64 (x5 + x7)) [(FV.int .i64 x8)]) := by kernel_rfl
theorem L_ref03_Signs_2_1_eq (R : Orc) (k : Nat) (w : Bool) (n : Nat) (x0 : ByteArray) (x5 : Int) (h4096 : List FV) : L_ref03_Signs_2_1 R k w (n + 1) x0 x5 h4096 = ifB (decide (x5 < (ByteArray.size x0 : Int)))
  (when ((decide (0 ≤ x5)) && (decide (x5 < (ByteArray.size x0 : Int)))) (ifB (decide ((IntKind.wrap .i64 (((Array.getD (ByteArray.data x0) (Int.toNat x5) 0).toNat : Nat) : Int)) ≥ 240))
   (jump w (J_ref03_Signs_1_1 R k w n x0 x5 (IntKind.wrap .i64 (((Array.getD (ByteArray.data x0) (Int.toNat x5) 0).toNat : Nat) : Int)) 1 (IntKind.wrap .i64 (((Array.getD (ByteArray.data x0) (Int.toNat x5) 0).toNat : Nat) : Int)) (decide ((IntKind.wrap .i64 (((Array.getD (ByteArray.data x0) (Int.toNat x5) 0).toNat : Nat) : Int)) < 248)) h4096))
   (jump w (J_ref03_Signs_1_1 R k w n x0 x5 (IntKind.wrap .i64 (((Array.getD (ByteArray.data x0) (Int.toNat x5) 0).toNat : Nat) : Int)) 1 (IntKind.wrap .i64 (((Array.getD (ByteArray.data x0) (Int.toNat x5) 0).toNat : Nat) : Int)) false h4096))))
  (some ((.exit 0), X_ref03_Signs_2_2 h4096)) := by kernel_rfl
theorem J_ref03_Signs_1_1_eq (R : Orc) (k : Nat) (w : Bool) (n : Nat) (x0 : ByteArray) (x5 : Int) (x6 : Int) (x7 : Int) (x8 : Int) (x25 : Bool) (h4096 : List FV) : J_ref03_Signs_1_1 R k w n x0 x5 x6 x7 x8 x25 h4096 = ifB x25
  (jump w (J_ref03_Signs_7_1 R k w n x0 x5 x6 4 (IntKind.wrap .i64 (x6 - 240)) h4096))
  (ifB (decide (x6 ≥ 224))
   (jump w (J_ref03_Signs_7_1 R k w n x0 x5 x6 3 (IntKind.wrap .i64 (x6 - 224)) h4096))
   (ifB (decide (x6 ≥ 192))
    (jump w (J_ref03_Signs_7_1 R k w n x0 x5 x6 2 (IntKind.wrap .i64 (x6 - 192)) h4096))
    (jump w (J_ref03_Signs_7_1 R k w n x0 x5 x6 x7 x8 h4096)))) := by kernel_rfl
theorem X_ref03_Signs_2_2_eq (R : Orc) (k : Nat) (w : Bool) (h4096 : List FV) : K_ref03_Signs_2 R k w (.exit 0) (X_ref03_Signs_2_2 h4096) = some ([.fz (FV.sl h4096), .fz (FV.bool true)], []) := by kernel_rfl
theorem J_ref03_Signs_7_1_eq (R : Orc) (k : Nat) (w : Bool) (n : Nat) (x0 : ByteArray) (x5 : Int) (x6 : Int) (x7 : Int) (x8 : Int) (h4096 : List FV) : J_ref03_Signs_7_1 R k w n x0 x5 x6 x7 x8 h4096 = ifB (decide (x6 ≥ 248))
  (some (.ret, X_ref03_Signs_2_3 false h4096))
  (ifB (decide (x6 ≥ 128))
   (ifB (decide (x6 < 192))
    (some (.ret, X_ref03_Signs_2_3 false h4096))
    (ifB (decide ((IntKind.wrap .i64 (x5 + x7)) > (ByteArray.size x0 : Int)))
     (some (.ret, X_ref03_Signs_2_3 false h4096))
     (jump w (J_ref03_Signs_6_1 R k w n x0 x5 x7 x8 h4096))))
   (ifB (decide ((IntKind.wrap .i64 (x5 + x7)) > (ByteArray.size x0 : Int)))
    (some (.ret, X_ref03_Signs_2_3 false h4096))
    (jump w (J_ref03_Signs_6_1 R k w n x0 x5 x7 x8 h4096)))) := by kernel_rfl
theorem X_ref03_Signs_2_3_eq (R : Orc) (k : Nat) (w : Bool) (x3 : Bool) (h4096 : List FV) : K_ref03_Signs_2 R k w .ret (X_ref03_Signs_2_3 x3 h4096) = some ([.fz (FV.sl []), .fz (FV.bool x3)], []) := by kernel_rfl
theorem J_ref03_Signs_6_1_eq (R : Orc) (k : Nat) (w : Bool) (n : Nat) (x0 : ByteArray) (x5 : Int) (x7 : Int) (x8 : Int) (h4096 : List FV) : J_ref03_Signs_6_1 R k w n x0 x5 x7 x8 h4096 = onL (L_ref03_Signs_1_1 R k w k x0 x5 x7 x8 1 h4096) (K_ref03_Signs_1 R k w n) := by kernel_rfl
theorem L_ref03_Signs_1_1_eq (R : Orc) (k : Nat) (w : Bool) (n : Nat) (x0 : ByteArray) (x5 : Int) (x7 : Int) (x8 : Int) (x9 : Int) (h4096 : List FV) : L_ref03_Signs_1_1 R k w (n + 1) x0 x5 x7 x8 x9 h4096 = ifB (decide (x9 < x7))
  (when ((decide (0 ≤ (IntKind.wrap .i64 (x5 + x9)))) && (decide ((IntKind.wrap .i64 (x5 + x9)) < (ByteArray.size x0 : Int)))) (ifB (decide ((IntKind.wrap .i64 (((Array.getD (ByteArray.data x0) (Int.toNat (IntKind.wrap .i64 (x5 + x9))) 0).toNat : Nat) : Int)) < 128))
   (some (.ret, X_ref03_Signs_1_2 x0 false x5 x7 x8 h4096))
   (ifB (decide ((IntKind.wrap .i64 (((Array.getD (ByteArray.data x0) (Int.toNat (IntKind.wrap .i64 (x5 + x9))) 0).toNat : Nat) : Int)) > 191))
    (some (.ret, X_ref03_Signs_1_2 x0 false x5 x7 x8 h4096))
    (jump w (J_ref03_Signs_2_1 R k w n x0 x5 x7 x8 x9 (IntKind.wrap .i64 (((Array.getD (ByteArray.data x0) (Int.toNat (IntKind.wrap .i64 (x5 + x9))) 0).toNat : Nat) : Int)) h4096)))))
  (some ((.exit 2), X_ref03_Signs_1_3 x0 x5 x7 x8 h4096)) := by kernel_rfl
theorem X_ref03_Signs_1_2_eq (R : Orc) (k : Nat) (w : Bool) (n : Nat) (x0 : ByteArray) (x3 : Bool) (x5 : Int) (x7 : Int) (x8 : Int) (h4096 : List FV) : K_ref03_Signs_1 R k w n .ret (X_ref03_Signs_1_2 x0 x3 x5 x7 x8 h4096) = some (.ret, X_ref03_Signs_2_3 x3 h4096) := by kernel_rfl
theorem J_ref03_Signs_2_1_eq (R : Orc) (k : Nat) (w : Bool) (n : Nat) (x0 : ByteArray) (x5 : Int) (x7 : Int) (x8 : Int) (x9 : Int) (x10 : Int) (h4096 : List FV) : J_ref03_Signs_2_1 R k w n x0 x5 x7 x8 x9 x10 h4096 = L_ref03_Signs_1_1 R k w n x0 x5 x7 (IntKind.wrap .i64 ((IntKind.wrap .i64 ((IntKind.wrap .i64 (64 * x8)) + x10)) - 128)) (IntKind.wrap .i64 (x9 + 1)) h4096 := by kernel_rfl
theorem X_ref03_Signs_1_3_eq (R : Orc) (k : Nat) (w : Bool) (n : Nat) (x0 : ByteArray) (x5 : Int) (x7 : Int) (x8 : Int) (h4096 : List FV) : K_ref03_Signs_1 R k w n (.exit 2) (X_ref03_Signs_1_3 x0 x5 x7 x8 h4096) = ifB (decide (x8 > 1114111))
  (some (.ret, X_ref03_Signs_2_3 false h4096))
  (ifB (decide (x8 ≥ 55296))
   (ifB (decide (x8 < 57344))
    (some (.ret, X_ref03_Signs_2_3 false h4096))
    (onR (R N_ref03_Put [.fz (FV.int .i64 x8)]) fun r2 => when (List.isEmpty r2.2 && allF [.fz] r2.1) (when ((FV.isSl (TV.toF (List.getD r2.1 0 TV.em))) && (List.all (FV.toSl (TV.toF (List.getD r2.1 0 TV.em))) (FV.fits 1 false))) (when (List.all (FV.toSl (TV.toF (List.getD r2.1 0 TV.em))) (FV.isInt .u8)) (when (decide (0 ≤ (IntKind.wrap .i64 (x5 + x7))) && decide ((IntKind.wrap .i64 (x5 + x7)) ≤ (ByteArray.size x0 : Int))) (when (decide (0 ≤ x5) && decide (x5 ≤ (IntKind.wrap .i64 (x5 + x7)))) (ifB (!(ByteArray.toList (⟨(List.map (fun e => UInt8.ofNat (FV.toInt e).toNat) (FV.toSl (TV.toF (List.getD r2.1 0 TV.em)))).toArray⟩ : ByteArray) == ByteArray.toList (ByteArray.extract x0 (Int.toNat x5) (Int.toNat (IntKind.wrap .i64 (x5 + x7))))))
     (some (.ret, X_ref03_Signs_2_3 false h4096))
     (jump w (J_ref03_Signs_4_1 R k w n x0 x5 x7 x8 h4096)))))))))
   (onR (R N_ref03_Put [.fz (FV.int .i64 x8)]) fun r3 => when (List.isEmpty r3.2 && allF [.fz] r3.1) (when ((FV.isSl (TV.toF (List.getD r3.1 0 TV.em))) && (List.all (FV.toSl (TV.toF (List.getD r3.1 0 TV.em))) (FV.fits 1 false))) (when (List.all (FV.toSl (TV.toF (List.getD r3.1 0 TV.em))) (FV.isInt .u8)) (when (decide (0 ≤ (IntKind.wrap .i64 (x5 + x7))) && decide ((IntKind.wrap .i64 (x5 + x7)) ≤ (ByteArray.size x0 : Int))) (when (decide (0 ≤ x5) && decide (x5 ≤ (IntKind.wrap .i64 (x5 + x7)))) (ifB (!(ByteArray.toList (⟨(List.map (fun e => UInt8.ofNat (FV.toInt e).toNat) (FV.toSl (TV.toF (List.getD r3.1 0 TV.em)))).toArray⟩ : ByteArray) == ByteArray.toList (ByteArray.extract x0 (Int.toNat x5) (Int.toNat (IntKind.wrap .i64 (x5 + x7))))))
    (some (.ret, X_ref03_Signs_2_3 false h4096))
    (jump w (J_ref03_Signs_4_1 R k w n x0 x5 x7 x8 h4096))))))))) := by kernel_rfl
theorem J_ref03_Signs_4_1_eq (R : Orc) (k : Nat) (w : Bool) (n : Nat) (x0 : ByteArray) (x5 : Int) (x7 : Int) (x8 : Int) (h4096 : List FV) : J_ref03_Signs_4_1 R k w n x0 x5 x7 x8 h4096 = when (decide ((List.length h4096 + List.length [(FV.int .i64 x8)]) * 8 ≤ roomy) && decide (List.length h4096 + List.length [(FV.int .i64 x8)] ≤ roomy)) (L_ref03_Signs_2_1 R k w n x0 (IntKind.wrap .i64 (x5 + x7)) (h4096 ++ [(FV.int .i64 x8)])) := by kernel_rfl
/-! keyhole/keyholeref04.Is -/
def A_ref04_Is_j1 : ACode := .seq (.region [⟨(some 21), .fadr 1 (.t 1), none, none⟩,
  ⟨(some 22), .load 1 false (.t 21), none, some (.int .i64)⟩,
  ⟨(some 23), .binI .eql .i64 (.t 22) (.c (.fz (.int .i64 0))), none, some .bool⟩,
  ⟨(some 24), .mov (.t 23), none, some .bool⟩,
  ⟨(some 25), .fadr 0 (.t 1), (some (24, false)), none⟩,
  ⟨(some 26), .load 1 false (.t 25), (some (24, false)), some (.int .i64)⟩,
  ⟨(some 27), .binI .rem .i64 (.t 26) (.c (.fz (.int .i64 10))), (some (24, false)), some (.int .i64)⟩,
  ⟨(some 28), .binI .neq .i64 (.t 27) (.c (.fz (.int .i64 0))), (some (24, false)), some .bool⟩,
  ⟨(some 29), .pick (.t 24) (.c (.fz (.bool true))) (.t 28), none, some .bool⟩,
  ⟨(some 2), .mov (.t 29), none, some .bool⟩])
 (.ret)
def A_ref04_Is : AFunc := ⟨1, [(.tmp 2, .fz)], .seq (.region [⟨(some 1), .box 2 true (.t 0), none, none⟩,
  ⟨(some 2), .mov (.c (.fz (.bool false))), none, some .bool⟩])
 (.seq (.seq (.region [⟨(some 3), .fadr 1 (.t 1), none, none⟩,
    ⟨(some 4), .load 1 false (.t 3), none, some (.int .i64)⟩,
    ⟨(some 5), .binI .lss .i64 (.t 4) (.c (.fz (.int .i64 0))), none, some .bool⟩,
    ⟨(some 6), .mov (.t 5), none, some .bool⟩,
    ⟨(some 7), .fadr 1 (.t 1), (some (6, false)), none⟩,
    ⟨(some 8), .load 1 false (.t 7), (some (6, false)), some (.int .i64)⟩,
    ⟨(some 9), .binI .gtr .i64 (.t 8) (.c (.fz (.int .i64 9))), (some (6, false)), some .bool⟩,
    ⟨(some 10), .pick (.t 6) (.c (.fz (.bool true))) (.t 9), none, some .bool⟩,
    ⟨(some 11), .mov (.t 10), none, some .bool⟩,
    ⟨(some 12), .fadr 0 (.t 1), (some (11, false)), none⟩,
    ⟨(some 13), .load 1 false (.t 12), (some (11, false)), some (.int .i64)⟩,
    ⟨(some 14), .binI .geq .i64 (.t 13) (.c (.fz (.int .i64 1000000000000000))), (some (11, false)), some .bool⟩,
    ⟨(some 15), .pick (.t 11) (.c (.fz (.bool true))) (.t 14), none, some .bool⟩,
    ⟨(some 16), .mov (.t 15), none, some .bool⟩,
    ⟨(some 17), .fadr 0 (.t 1), (some (16, false)), none⟩,
    ⟨(some 18), .load 1 false (.t 17), (some (16, false)), some (.int .i64)⟩,
    ⟨(some 19), .binI .leq .i64 (.t 18) (.c (.fz (.int .i64 (-1000000000000000)))), (some (16, false)), some .bool⟩,
    ⟨(some 20), .pick (.t 16) (.c (.fz (.bool true))) (.t 19), none, some .bool⟩])
   (.cond (.t 20) (.seq (.region [⟨(some 2), .mov (.c (.fz (.bool false))), none, some .bool⟩])
     (.ret))
    (.skip)))
  (.trim [1] A_ref04_Is_j1))⟩
def J_ref04_Is_1_0 (R : Orc) (k : Nat) (w : Bool) (h4096_0 : Int) (h4096_1 : Int) := execL R k w [] A_ref04_Is_j1 Ans ⟨[(1, .ptr 4096 0 0)], [(4095, .dead), (4096, .var 2 true (.fz (FV.ag [(FV.int .i64 h4096_0), (FV.int .i64 h4096_1)])))]⟩ (kFin R [(.tmp 2, .fz)] [])
theorem E_ref04_Is (R : Orc) (k : Nat) (w : Bool) (a0_0 : Int) (a0_1 : Int) : callL R k w A_ref04_Is [.fz (FV.ag [(FV.int .i64 a0_0), (FV.int .i64 a0_1)])] = ifB (decide (a0_1 < 0))
  (some ([.fz (FV.bool false)], []))
  (ifB (decide (a0_1 > 9))
   (some ([.fz (FV.bool false)], []))
   (ifB (decide (a0_0 ≥ 1000000000000000))
    (some ([.fz (FV.bool false)], []))
    (ifB (decide (a0_0 ≤ (-1000000000000000)))
     (some ([.fz (FV.bool false)], []))
     (jump w (J_ref04_Is_1_0 R k w a0_0 a0_1))))) := by kernel_rfl
theorem J_ref04_Is_1_0_eq (R : Orc) (k : Nat) (w : Bool) (h4096_0 : Int) (h4096_1 : Int) : J_ref04_Is_1_0 R k w h4096_0 h4096_1 = ifB (h4096_1 == 0)
  (some ([.fz (FV.bool true)], []))
  (some ([.fz (FV.bool ((Int.tmod h4096_0 10) != 0))], [])) := by kernel_rfl
/-! keyhole/utf.size -/
def A_utf_size_j1 : ACode := .cond (.t 20) (.skip)
 (.region [⟨(some 41), .mov (.t 3), none, some (.int .u8)⟩,
  ⟨(some 42), .binI .eql .u8 (.t 41) (.c (.fz (.int .u8 237))), none, some .bool⟩,
  ⟨(some 43), .mov (.t 42), none, some .bool⟩,
  ⟨(some 44), .mov (.t 0), (some (43, true)), some .str⟩,
  ⟨(some 45), .call N_utf_tail [((.t 44), .fz), ((.c (.fz (.int .i64 2))), .fz), ((.c (.fz (.int .u8 128))), .fz), ((.c (.fz (.int .u8 159))), .fz)] [.fz], (some (43, true)), some .bool⟩,
  ⟨(some 46), .pick (.t 43) (.t 45) (.c (.fz (.bool false))), none, some .bool⟩,
  ⟨(some 20), .mov (.t 46), none, some .bool⟩])
def A_utf_size_j2 : ACode := .cond (.t 20) (.skip)
 (.seq (.region [⟨(some 27), .mov (.t 3), none, some (.int .u8)⟩,
   ⟨(some 28), .binI .geq .u8 (.t 27) (.c (.fz (.int .u8 225))), none, some .bool⟩,
   ⟨(some 29), .mov (.t 28), none, some .bool⟩,
   ⟨(some 30), .mov (.t 3), (some (29, true)), some (.int .u8)⟩,
   ⟨(some 31), .binI .leq .u8 (.t 30) (.c (.fz (.int .u8 239))), (some (29, true)), some .bool⟩,
   ⟨(some 32), .pick (.t 29) (.t 31) (.c (.fz (.bool false))), none, some .bool⟩,
   ⟨(some 33), .mov (.t 32), none, some .bool⟩,
   ⟨(some 34), .mov (.t 3), (some (33, true)), some (.int .u8)⟩,
   ⟨(some 35), .binI .neq .u8 (.t 34) (.c (.fz (.int .u8 237))), (some (33, true)), some .bool⟩,
   ⟨(some 36), .pick (.t 33) (.t 35) (.c (.fz (.bool false))), none, some .bool⟩,
   ⟨(some 37), .mov (.t 36), none, some .bool⟩,
   ⟨(some 38), .mov (.t 0), (some (37, true)), some .str⟩,
   ⟨(some 39), .call N_utf_tail [((.t 38), .fz), ((.c (.fz (.int .i64 2))), .fz), ((.c (.fz (.int .u8 128))), .fz), ((.c (.fz (.int .u8 191))), .fz)] [.fz], (some (37, true)), some .bool⟩,
   ⟨(some 40), .pick (.t 37) (.t 39) (.c (.fz (.bool false))), none, some .bool⟩,
   ⟨(some 20), .mov (.t 40), none, some .bool⟩])
  (.trim [0, 3, 20] A_utf_size_j1))
def A_utf_size_j3 : ACode := .cond (.t 47) (.skip)
 (.region [⟨(some 64), .mov (.t 3), none, some (.int .u8)⟩,
  ⟨(some 65), .binI .eql .u8 (.t 64) (.c (.fz (.int .u8 244))), none, some .bool⟩,
  ⟨(some 66), .mov (.t 65), none, some .bool⟩,
  ⟨(some 67), .mov (.t 0), (some (66, true)), some .str⟩,
  ⟨(some 68), .call N_utf_tail [((.t 67), .fz), ((.c (.fz (.int .i64 3))), .fz), ((.c (.fz (.int .u8 128))), .fz), ((.c (.fz (.int .u8 143))), .fz)] [.fz], (some (66, true)), some .bool⟩,
  ⟨(some 69), .pick (.t 66) (.t 68) (.c (.fz (.bool false))), none, some .bool⟩,
  ⟨(some 47), .mov (.t 69), none, some .bool⟩])
def A_utf_size_j4 : ACode := .cond (.t 47) (.skip)
 (.seq (.region [⟨(some 54), .mov (.t 3), none, some (.int .u8)⟩,
   ⟨(some 55), .binI .geq .u8 (.t 54) (.c (.fz (.int .u8 241))), none, some .bool⟩,
   ⟨(some 56), .mov (.t 55), none, some .bool⟩,
   ⟨(some 57), .mov (.t 3), (some (56, true)), some (.int .u8)⟩,
   ⟨(some 58), .binI .leq .u8 (.t 57) (.c (.fz (.int .u8 243))), (some (56, true)), some .bool⟩,
   ⟨(some 59), .pick (.t 56) (.t 58) (.c (.fz (.bool false))), none, some .bool⟩,
   ⟨(some 60), .mov (.t 59), none, some .bool⟩,
   ⟨(some 61), .mov (.t 0), (some (60, true)), some .str⟩,
   ⟨(some 62), .call N_utf_tail [((.t 61), .fz), ((.c (.fz (.int .i64 3))), .fz), ((.c (.fz (.int .u8 128))), .fz), ((.c (.fz (.int .u8 191))), .fz)] [.fz], (some (60, true)), some .bool⟩,
   ⟨(some 63), .pick (.t 60) (.t 62) (.c (.fz (.bool false))), none, some .bool⟩,
   ⟨(some 47), .mov (.t 63), none, some .bool⟩])
  (.trim [0, 3, 47] A_utf_size_j3))
def A_utf_size_s5 : ACode := .cond (.t 47) (.seq (.region [⟨(some 2), .mov (.c (.fz (.int .i64 4))), none, some (.int .i64)⟩])
  (.ret))
 (.skip)
def A_utf_size_j6 : ACode := .cond (.t 20) (.seq (.region [⟨(some 2), .mov (.c (.fz (.int .i64 3))), none, some (.int .i64)⟩])
  (.ret))
 (.seq (.seq (.region [⟨(some 48), .mov (.t 3), none, some (.int .u8)⟩,
    ⟨(some 49), .binI .eql .u8 (.t 48) (.c (.fz (.int .u8 240))), none, some .bool⟩,
    ⟨(some 50), .mov (.t 49), none, some .bool⟩,
    ⟨(some 51), .mov (.t 0), (some (50, true)), some .str⟩,
    ⟨(some 52), .call N_utf_tail [((.t 51), .fz), ((.c (.fz (.int .i64 3))), .fz), ((.c (.fz (.int .u8 144))), .fz), ((.c (.fz (.int .u8 191))), .fz)] [.fz], (some (50, true)), some .bool⟩,
    ⟨(some 53), .pick (.t 50) (.t 52) (.c (.fz (.bool false))), none, some .bool⟩,
    ⟨(some 47), .mov (.t 53), none, some .bool⟩])
   (.trim [0, 3, 47] A_utf_size_j4))
  A_utf_size_s5)
def A_utf_size_s7 : ACode := .trim [0, 3, 20] A_utf_size_j6
def A_utf_size_j8 : ACode := .cond (.t 9) (.seq (.region [⟨(some 2), .mov (.c (.fz (.int .i64 2))), none, some (.int .i64)⟩])
  (.ret))
 (.seq (.seq (.region [⟨(some 21), .mov (.t 3), none, some (.int .u8)⟩,
    ⟨(some 22), .binI .eql .u8 (.t 21) (.c (.fz (.int .u8 224))), none, some .bool⟩,
    ⟨(some 23), .mov (.t 22), none, some .bool⟩,
    ⟨(some 24), .mov (.t 0), (some (23, true)), some .str⟩,
    ⟨(some 25), .call N_utf_tail [((.t 24), .fz), ((.c (.fz (.int .i64 2))), .fz), ((.c (.fz (.int .u8 160))), .fz), ((.c (.fz (.int .u8 191))), .fz)] [.fz], (some (23, true)), some .bool⟩,
    ⟨(some 26), .pick (.t 23) (.t 25) (.c (.fz (.bool false))), none, some .bool⟩,
    ⟨(some 20), .mov (.t 26), none, some .bool⟩])
   (.trim [0, 3, 20] A_utf_size_j2))
  A_utf_size_s7)
def A_utf_size_s9 : ACode := .seq (.region [⟨(some 2), .mov (.c (.fz (.int .i64 0))), none, some (.int .i64)⟩])
 (.ret)
def A_utf_size : AFunc := ⟨1, [(.tmp 2, .fz)], .seq (.region [⟨(some 2), .mov (.c (.fz (.int .i64 0))), none, some (.int .i64)⟩])
 (.seq (.region [⟨(some 4), .mov (.t 0), none, some .str⟩,
   ⟨(some 5), .index .str (.t 4) (.c (.fz (.int .i64 0))), none, some (.int .u8)⟩,
   ⟨(some 3), .mov (.t 5), none, some (.int .u8)⟩])
  (.seq (.block 0 (.seq (.region [⟨(some 7), .mov (.t 3), none, some (.int .u8)⟩,
      ⟨(some 8), .binI .lss .u8 (.t 7) (.c (.fz (.int .u8 128))), none, some .bool⟩,
      ⟨(some 6), .mov (.t 8), none, some .bool⟩])
     (.cond (.t 6) (.seq (.region [⟨(some 2), .mov (.c (.fz (.int .i64 1))), none, some (.int .i64)⟩])
       (.ret))
      (.seq (.region [⟨(some 10), .mov (.t 3), none, some (.int .u8)⟩,
        ⟨(some 11), .binI .geq .u8 (.t 10) (.c (.fz (.int .u8 194))), none, some .bool⟩,
        ⟨(some 12), .mov (.t 11), none, some .bool⟩,
        ⟨(some 13), .mov (.t 3), (some (12, true)), some (.int .u8)⟩,
        ⟨(some 14), .binI .leq .u8 (.t 13) (.c (.fz (.int .u8 223))), (some (12, true)), some .bool⟩,
        ⟨(some 15), .pick (.t 12) (.t 14) (.c (.fz (.bool false))), none, some .bool⟩,
        ⟨(some 16), .mov (.t 15), none, some .bool⟩,
        ⟨(some 17), .mov (.t 0), (some (16, true)), some .str⟩,
        ⟨(some 18), .call N_utf_tail [((.t 17), .fz), ((.c (.fz (.int .i64 1))), .fz), ((.c (.fz (.int .u8 128))), .fz), ((.c (.fz (.int .u8 191))), .fz)] [.fz], (some (16, true)), some .bool⟩,
        ⟨(some 19), .pick (.t 16) (.t 18) (.c (.fz (.bool false))), none, some .bool⟩,
        ⟨(some 9), .mov (.t 19), none, some .bool⟩])
       (.trim [0, 3, 9] A_utf_size_j8)))))
   A_utf_size_s9))⟩
def J_utf_size_8_0 (R : Orc) (k : Nat) (w : Bool) (x0 : ByteArray) (x3 : Int) (x9 : Bool) := execL R k w [] A_utf_size_j8 Ans ⟨[(0, .fz (FV.str x0)), (3, .fz (FV.int .u8 x3)), (9, .fz (FV.bool x9))], [(4095, .dead)]⟩ (kBlk 0 (kSeq R k w [] A_utf_size_s9 (kFin R [(.tmp 2, .fz)] [])))
def J_utf_size_2_0 (R : Orc) (k : Nat) (w : Bool) (x0 : ByteArray) (x3 : Int) (x20 : Bool) := execL R k w [] A_utf_size_j2 Ans ⟨[(0, .fz (FV.str x0)), (3, .fz (FV.int .u8 x3)), (20, .fz (FV.bool x20))], [(4095, .dead)]⟩ (kSeq R k w [] A_utf_size_s7 (kBlk 0 (kSeq R k w [] A_utf_size_s9 (kFin R [(.tmp 2, .fz)] []))))
def J_utf_size_6_0 (R : Orc) (k : Nat) (w : Bool) (x0 : ByteArray) (x3 : Int) (x20 : Bool) := execL R k w [] A_utf_size_j6 Ans ⟨[(0, .fz (FV.str x0)), (3, .fz (FV.int .u8 x3)), (20, .fz (FV.bool x20))], [(4095, .dead)]⟩ (kBlk 0 (kSeq R k w [] A_utf_size_s9 (kFin R [(.tmp 2, .fz)] [])))
def J_utf_size_1_0 (R : Orc) (k : Nat) (w : Bool) (x0 : ByteArray) (x3 : Int) (x20 : Bool) := execL R k w [] A_utf_size_j1 Ans ⟨[(0, .fz (FV.str x0)), (3, .fz (FV.int .u8 x3)), (20, .fz (FV.bool x20))], [(4095, .dead)]⟩ (kSeq R k w [] A_utf_size_s7 (kBlk 0 (kSeq R k w [] A_utf_size_s9 (kFin R [(.tmp 2, .fz)] []))))
def J_utf_size_4_0 (R : Orc) (k : Nat) (w : Bool) (x0 : ByteArray) (x3 : Int) (x47 : Bool) := execL R k w [] A_utf_size_j4 Ans ⟨[(0, .fz (FV.str x0)), (3, .fz (FV.int .u8 x3)), (47, .fz (FV.bool x47))], [(4095, .dead)]⟩ (kSeq R k w [] A_utf_size_s5 (kBlk 0 (kSeq R k w [] A_utf_size_s9 (kFin R [(.tmp 2, .fz)] []))))
def J_utf_size_3_0 (R : Orc) (k : Nat) (w : Bool) (x0 : ByteArray) (x3 : Int) (x47 : Bool) := execL R k w [] A_utf_size_j3 Ans ⟨[(0, .fz (FV.str x0)), (3, .fz (FV.int .u8 x3)), (47, .fz (FV.bool x47))], [(4095, .dead)]⟩ (kSeq R k w [] A_utf_size_s5 (kBlk 0 (kSeq R k w [] A_utf_size_s9 (kFin R [(.tmp 2, .fz)] []))))
theorem E_utf_size (R : Orc) (k : Nat) (w : Bool) (a0 : ByteArray) : callL R k w A_utf_size [.fz (FV.str a0)] = when (decide (0 < (ByteArray.size a0 : Int))) (ifB (decide ((((Array.getD (ByteArray.data a0) 0 0).toNat : Nat) : Int) < 128))
  (some ([.fz (FV.int .i64 1)], []))
  (ifB (decide ((((Array.getD (ByteArray.data a0) 0 0).toNat : Nat) : Int) ≥ 194))
   (ifB (decide ((((Array.getD (ByteArray.data a0) 0 0).toNat : Nat) : Int) ≤ 223))
    (onR (R N_utf_tail [.fz (FV.str a0), .fz (FV.int .i64 1), .fz (FV.int .u8 128), .fz (FV.int .u8 191)]) fun r0 => when (List.isEmpty r0.2 && allF [.fz] r0.1) (when (FV.isBool (TV.toF (List.getD r0.1 0 TV.em))) (jump w (J_utf_size_8_0 R k w a0 (((Array.getD (ByteArray.data a0) 0 0).toNat : Nat) : Int) (FV.toBool (TV.toF (List.getD r0.1 0 TV.em)))))))
    (jump w (J_utf_size_8_0 R k w a0 (((Array.getD (ByteArray.data a0) 0 0).toNat : Nat) : Int) false)))
   (jump w (J_utf_size_8_0 R k w a0 (((Array.getD (ByteArray.data a0) 0 0).toNat : Nat) : Int) false)))) := by kernel_rfl
theorem J_utf_size_8_0_eq (R : Orc) (k : Nat) (w : Bool) (x0 : ByteArray) (x3 : Int) (x9 : Bool) : J_utf_size_8_0 R k w x0 x3 x9 = ifB x9
  (some ([.fz (FV.int .i64 2)], []))
  (ifB (x3 == 224)
   (onR (R N_utf_tail [.fz (FV.str x0), .fz (FV.int .i64 2), .fz (FV.int .u8 160), .fz (FV.int .u8 191)]) fun r1 => when (List.isEmpty r1.2 && allF [.fz] r1.1) (when (FV.isBool (TV.toF (List.getD r1.1 0 TV.em))) (jump w (J_utf_size_2_0 R k w x0 x3 (FV.toBool (TV.toF (List.getD r1.1 0 TV.em)))))))
   (jump w (J_utf_size_2_0 R k w x0 x3 false))) := by kernel_rfl
theorem J_utf_size_2_0_eq (R : Orc) (k : Nat) (w : Bool) (x0 : ByteArray) (x3 : Int) (x20 : Bool) : J_utf_size_2_0 R k w x0 x3 x20 = ifB x20
  (jump w (J_utf_size_6_0 R k w x0 x3 true))
  (ifB (decide (x3 ≥ 225))
   (ifB (decide (x3 ≤ 239))
    (ifB (x3 != 237)
     (onR (R N_utf_tail [.fz (FV.str x0), .fz (FV.int .i64 2), .fz (FV.int .u8 128), .fz (FV.int .u8 191)]) fun r2 => when (List.isEmpty r2.2 && allF [.fz] r2.1) (when (FV.isBool (TV.toF (List.getD r2.1 0 TV.em))) (jump w (J_utf_size_1_0 R k w x0 x3 (FV.toBool (TV.toF (List.getD r2.1 0 TV.em)))))))
     (jump w (J_utf_size_1_0 R k w x0 x3 false)))
    (jump w (J_utf_size_1_0 R k w x0 x3 false)))
   (jump w (J_utf_size_1_0 R k w x0 x3 false))) := by kernel_rfl
theorem J_utf_size_6_0_eq (R : Orc) (k : Nat) (w : Bool) (x0 : ByteArray) (x3 : Int) (x20 : Bool) : J_utf_size_6_0 R k w x0 x3 x20 = ifB x20
  (some ([.fz (FV.int .i64 3)], []))
  (ifB (x3 == 240)
   (onR (R N_utf_tail [.fz (FV.str x0), .fz (FV.int .i64 3), .fz (FV.int .u8 144), .fz (FV.int .u8 191)]) fun r3 => when (List.isEmpty r3.2 && allF [.fz] r3.1) (when (FV.isBool (TV.toF (List.getD r3.1 0 TV.em))) (jump w (J_utf_size_4_0 R k w x0 x3 (FV.toBool (TV.toF (List.getD r3.1 0 TV.em)))))))
   (jump w (J_utf_size_4_0 R k w x0 x3 false))) := by kernel_rfl
theorem J_utf_size_1_0_eq (R : Orc) (k : Nat) (w : Bool) (x0 : ByteArray) (x3 : Int) (x20 : Bool) : J_utf_size_1_0 R k w x0 x3 x20 = ifB x20
  (jump w (J_utf_size_6_0 R k w x0 x3 true))
  (ifB (x3 == 237)
   (onR (R N_utf_tail [.fz (FV.str x0), .fz (FV.int .i64 2), .fz (FV.int .u8 128), .fz (FV.int .u8 159)]) fun r4 => when (List.isEmpty r4.2 && allF [.fz] r4.1) (when (FV.isBool (TV.toF (List.getD r4.1 0 TV.em))) (jump w (J_utf_size_6_0 R k w x0 x3 (FV.toBool (TV.toF (List.getD r4.1 0 TV.em)))))))
   (jump w (J_utf_size_6_0 R k w x0 x3 false))) := by kernel_rfl
theorem J_utf_size_4_0_eq (R : Orc) (k : Nat) (w : Bool) (x0 : ByteArray) (x3 : Int) (x47 : Bool) : J_utf_size_4_0 R k w x0 x3 x47 = ifB x47
  (some ([.fz (FV.int .i64 4)], []))
  (ifB (decide (x3 ≥ 241))
   (ifB (decide (x3 ≤ 243))
    (onR (R N_utf_tail [.fz (FV.str x0), .fz (FV.int .i64 3), .fz (FV.int .u8 128), .fz (FV.int .u8 191)]) fun r5 => when (List.isEmpty r5.2 && allF [.fz] r5.1) (when (FV.isBool (TV.toF (List.getD r5.1 0 TV.em))) (jump w (J_utf_size_3_0 R k w x0 x3 (FV.toBool (TV.toF (List.getD r5.1 0 TV.em)))))))
    (jump w (J_utf_size_3_0 R k w x0 x3 false)))
   (jump w (J_utf_size_3_0 R k w x0 x3 false))) := by kernel_rfl
theorem J_utf_size_3_0_eq (R : Orc) (k : Nat) (w : Bool) (x0 : ByteArray) (x3 : Int) (x47 : Bool) : J_utf_size_3_0 R k w x0 x3 x47 = ifB x47
  (some ([.fz (FV.int .i64 4)], []))
  (ifB (x3 == 244)
   (onR (R N_utf_tail [.fz (FV.str x0), .fz (FV.int .i64 3), .fz (FV.int .u8 128), .fz (FV.int .u8 143)]) fun r6 => when (List.isEmpty r6.2 && allF [.fz] r6.1) (when (FV.isBool (TV.toF (List.getD r6.1 0 TV.em))) (ifB (FV.toBool (TV.toF (List.getD r6.1 0 TV.em)))
    (some ([.fz (FV.int .i64 4)], []))
    (some ([.fz (FV.int .i64 0)], [])))))
   (some ([.fz (FV.int .i64 0)], []))) := by kernel_rfl
/-! keyhole/keyholeref03.Put -/
def A_ref03_Put : AFunc := ⟨1, [(.tmp 2, .fz)], .seq (.region [⟨(some 2), .mov (.c (.nils)), none, none⟩])
 (.seq (.seq (.region [⟨(some 3), .mov (.t 0), none, some (.int .i64)⟩,
    ⟨(some 4), .binI .lss .i64 (.t 3) (.c (.fz (.int .i64 128))), none, some .bool⟩])
   (.cond (.t 4) (.seq (.region [⟨(some 5), .mov (.t 0), none, some (.int .i64)⟩,
      ⟨(some 6), .conv .i64 .u8 (.t 5), none, some (.int .u8)⟩,
      ⟨(some 7), .buildSl 1 false 1 (.int .u8 0) [(0, (.t 6))], none, none⟩,
      ⟨(some 2), .mov (.t 7), none, none⟩])
     (.ret))
    (.skip)))
  (.seq (.seq (.region [⟨(some 8), .mov (.t 0), none, some (.int .i64)⟩,
     ⟨(some 9), .binI .lss .i64 (.t 8) (.c (.fz (.int .i64 2048))), none, some .bool⟩])
    (.cond (.t 9) (.seq (.region [⟨(some 10), .mov (.t 0), none, some (.int .i64)⟩,
       ⟨(some 11), .binI .quo .i64 (.t 10) (.c (.fz (.int .i64 64))), none, some (.int .i64)⟩,
       ⟨(some 12), .binI .add .i64 (.c (.fz (.int .i64 192))) (.t 11), none, some (.int .i64)⟩,
       ⟨(some 13), .conv .i64 .u8 (.t 12), none, some (.int .u8)⟩,
       ⟨(some 14), .mov (.t 0), none, some (.int .i64)⟩,
       ⟨(some 15), .binI .rem .i64 (.t 14) (.c (.fz (.int .i64 64))), none, some (.int .i64)⟩,
       ⟨(some 16), .binI .add .i64 (.c (.fz (.int .i64 128))) (.t 15), none, some (.int .i64)⟩,
       ⟨(some 17), .conv .i64 .u8 (.t 16), none, some (.int .u8)⟩,
       ⟨(some 18), .buildSl 1 false 2 (.int .u8 0) [(0, (.t 13)), (1, (.t 17))], none, none⟩,
       ⟨(some 2), .mov (.t 18), none, none⟩])
      (.ret))
     (.skip)))
   (.seq (.seq (.region [⟨(some 19), .mov (.t 0), none, some (.int .i64)⟩,
      ⟨(some 20), .binI .lss .i64 (.t 19) (.c (.fz (.int .i64 65536))), none, some .bool⟩])
     (.cond (.t 20) (.seq (.region [⟨(some 21), .mov (.t 0), none, some (.int .i64)⟩,
        ⟨(some 22), .binI .quo .i64 (.t 21) (.c (.fz (.int .i64 4096))), none, some (.int .i64)⟩,
        ⟨(some 23), .binI .add .i64 (.c (.fz (.int .i64 224))) (.t 22), none, some (.int .i64)⟩,
        ⟨(some 24), .conv .i64 .u8 (.t 23), none, some (.int .u8)⟩,
        ⟨(some 25), .mov (.t 0), none, some (.int .i64)⟩,
        ⟨(some 26), .binI .quo .i64 (.t 25) (.c (.fz (.int .i64 64))), none, some (.int .i64)⟩,
        ⟨(some 27), .binI .rem .i64 (.t 26) (.c (.fz (.int .i64 64))), none, some (.int .i64)⟩,
        ⟨(some 28), .binI .add .i64 (.c (.fz (.int .i64 128))) (.t 27), none, some (.int .i64)⟩,
        ⟨(some 29), .conv .i64 .u8 (.t 28), none, some (.int .u8)⟩,
        ⟨(some 30), .mov (.t 0), none, some (.int .i64)⟩,
        ⟨(some 31), .binI .rem .i64 (.t 30) (.c (.fz (.int .i64 64))), none, some (.int .i64)⟩,
        ⟨(some 32), .binI .add .i64 (.c (.fz (.int .i64 128))) (.t 31), none, some (.int .i64)⟩,
        ⟨(some 33), .conv .i64 .u8 (.t 32), none, some (.int .u8)⟩,
        ⟨(some 34), .buildSl 1 false 3 (.int .u8 0) [(0, (.t 24)), (1, (.t 29)), (2, (.t 33))], none, none⟩,
        ⟨(some 2), .mov (.t 34), none, none⟩])
       (.ret))
      (.skip)))
    (.seq (.region [⟨(some 35), .mov (.t 0), none, some (.int .i64)⟩,
      ⟨(some 36), .binI .quo .i64 (.t 35) (.c (.fz (.int .i64 262144))), none, some (.int .i64)⟩,
      ⟨(some 37), .binI .add .i64 (.c (.fz (.int .i64 240))) (.t 36), none, some (.int .i64)⟩,
      ⟨(some 38), .conv .i64 .u8 (.t 37), none, some (.int .u8)⟩,
      ⟨(some 39), .mov (.t 0), none, some (.int .i64)⟩,
      ⟨(some 40), .binI .quo .i64 (.t 39) (.c (.fz (.int .i64 4096))), none, some (.int .i64)⟩,
      ⟨(some 41), .binI .rem .i64 (.t 40) (.c (.fz (.int .i64 64))), none, some (.int .i64)⟩,
      ⟨(some 42), .binI .add .i64 (.c (.fz (.int .i64 128))) (.t 41), none, some (.int .i64)⟩,
      ⟨(some 43), .conv .i64 .u8 (.t 42), none, some (.int .u8)⟩,
      ⟨(some 44), .mov (.t 0), none, some (.int .i64)⟩,
      ⟨(some 45), .binI .quo .i64 (.t 44) (.c (.fz (.int .i64 64))), none, some (.int .i64)⟩,
      ⟨(some 46), .binI .rem .i64 (.t 45) (.c (.fz (.int .i64 64))), none, some (.int .i64)⟩,
      ⟨(some 47), .binI .add .i64 (.c (.fz (.int .i64 128))) (.t 46), none, some (.int .i64)⟩,
      ⟨(some 48), .conv .i64 .u8 (.t 47), none, some (.int .u8)⟩,
      ⟨(some 49), .mov (.t 0), none, some (.int .i64)⟩,
      ⟨(some 50), .binI .rem .i64 (.t 49) (.c (.fz (.int .i64 64))), none, some (.int .i64)⟩,
      ⟨(some 51), .binI .add .i64 (.c (.fz (.int .i64 128))) (.t 50), none, some (.int .i64)⟩,
      ⟨(some 52), .conv .i64 .u8 (.t 51), none, some (.int .u8)⟩,
      ⟨(some 53), .buildSl 1 false 4 (.int .u8 0) [(0, (.t 38)), (1, (.t 43)), (2, (.t 48)), (3, (.t 52))], none, none⟩,
      ⟨(some 2), .mov (.t 53), none, none⟩])
     (.ret)))))⟩
theorem E_ref03_Put (R : Orc) (k : Nat) (w : Bool) (a0 : Int) : callL R k w A_ref03_Put [.fz (FV.int .i64 a0)] = ifB (decide (a0 < 128))
  (some ([.fz (FV.sl [(FV.int .u8 (IntKind.wrap .u8 a0))])], []))
  (ifB (decide (a0 < 2048))
   (some ([.fz (FV.sl [(FV.int .u8 (IntKind.wrap .u8 (IntKind.wrap .i64 (192 + (IntKind.wrap .i64 (Int.tdiv a0 64)))))), (FV.int .u8 (IntKind.wrap .u8 (IntKind.wrap .i64 (128 + (Int.tmod a0 64)))))])], []))
   (ifB (decide (a0 < 65536))
    (some ([.fz (FV.sl [(FV.int .u8 (IntKind.wrap .u8 (IntKind.wrap .i64 (224 + (IntKind.wrap .i64 (Int.tdiv a0 4096)))))), (FV.int .u8 (IntKind.wrap .u8 (IntKind.wrap .i64 (128 + (Int.tmod (IntKind.wrap .i64 (Int.tdiv a0 64)) 64))))), (FV.int .u8 (IntKind.wrap .u8 (IntKind.wrap .i64 (128 + (Int.tmod a0 64)))))])], []))
    (some ([.fz (FV.sl [(FV.int .u8 (IntKind.wrap .u8 (IntKind.wrap .i64 (240 + (IntKind.wrap .i64 (Int.tdiv a0 262144)))))), (FV.int .u8 (IntKind.wrap .u8 (IntKind.wrap .i64 (128 + (Int.tmod (IntKind.wrap .i64 (Int.tdiv a0 4096)) 64))))), (FV.int .u8 (IntKind.wrap .u8 (IntKind.wrap .i64 (128 + (Int.tmod (IntKind.wrap .i64 (Int.tdiv a0 64)) 64))))), (FV.int .u8 (IntKind.wrap .u8 (IntKind.wrap .i64 (128 + (Int.tmod a0 64)))))])], [])))) := by kernel_rfl
/-! keyhole/utf.tail -/
def A_utf_tail_b1 : ACode := .seq (.seq (.region [⟨(some 26), .mov (.t 9), none, some (.int .i64)⟩,
   ⟨(some 27), .mov (.t 1), none, some (.int .i64)⟩,
   ⟨(some 28), .binI .leq .i64 (.t 26) (.t 27), none, some .bool⟩])
  (.cond (.t 28) (.skip)
   (.exit 0)))
 (.seq (.block 1 (.seq (.region [⟨(some 31), .mov (.t 0), none, some .str⟩,
     ⟨(some 32), .mov (.t 9), none, some (.int .i64)⟩,
     ⟨(some 33), .index .str (.t 31) (.t 32), none, some (.int .u8)⟩,
     ⟨(some 34), .binI .lss .u8 (.t 33) (.c (.fz (.int .u8 128))), none, some .bool⟩,
     ⟨(some 35), .mov (.t 34), none, some .bool⟩,
     ⟨(some 36), .mov (.t 0), (some (35, false)), some .str⟩,
     ⟨(some 37), .mov (.t 9), (some (35, false)), some (.int .i64)⟩,
     ⟨(some 38), .index .str (.t 36) (.t 37), (some (35, false)), some (.int .u8)⟩,
     ⟨(some 39), .binI .gtr .u8 (.t 38) (.c (.fz (.int .u8 191))), (some (35, false)), some .bool⟩,
     ⟨(some 40), .pick (.t 35) (.c (.fz (.bool true))) (.t 39), none, some .bool⟩])
    (.cond (.t 40) (.seq (.region [⟨(some 8), .mov (.c (.fz (.bool false))), none, some .bool⟩])
      (.ret))
     (.skip))))
  (.region [⟨(some 29), .mov (.t 9), none, some (.int .i64)⟩,
   ⟨(some 30), .binI .add .i64 (.t 29) (.c (.fz (.int .i64 1))), none, some (.int .i64)⟩,
   ⟨(some 9), .mov (.t 30), none, some (.int .i64)⟩]))
def A_utf_tail_s1 : ACode := .seq (.region [⟨(some 8), .mov (.c (.fz (.bool true))), none, some .bool⟩])
 (.ret)
def A_utf_tail_j2 : ACode := .seq (.seq (.region [⟨(some 9), .mov (.c (.fz (.int .i64 2))), none, some (.int .i64)⟩])
  (.block 0 (.loop [0, 1, 9] [8] A_utf_tail_b1)))
 A_utf_tail_s1
def A_utf_tail : AFunc := ⟨4, [(.tmp 8, .fz)], .seq (.region [⟨(some 8), .mov (.c (.fz (.bool false))), none, some .bool⟩])
 (.seq (.seq (.region [⟨(some 10), .mov (.t 0), none, some .str⟩,
    ⟨(some 11), .len .str (.t 10), none, some (.int .i64)⟩,
    ⟨(some 12), .mov (.t 1), none, some (.int .i64)⟩,
    ⟨(some 13), .binI .leq .i64 (.t 11) (.t 12), none, some .bool⟩,
    ⟨(some 14), .mov (.t 13), none, some .bool⟩,
    ⟨(some 15), .mov (.t 0), (some (14, false)), some .str⟩,
    ⟨(some 16), .index .str (.t 15) (.c (.fz (.int .i64 1))), (some (14, false)), some (.int .u8)⟩,
    ⟨(some 17), .mov (.t 2), (some (14, false)), some (.int .u8)⟩,
    ⟨(some 18), .binI .lss .u8 (.t 16) (.t 17), (some (14, false)), some .bool⟩,
    ⟨(some 19), .pick (.t 14) (.c (.fz (.bool true))) (.t 18), none, some .bool⟩,
    ⟨(some 20), .mov (.t 19), none, some .bool⟩,
    ⟨(some 21), .mov (.t 0), (some (20, false)), some .str⟩,
    ⟨(some 22), .index .str (.t 21) (.c (.fz (.int .i64 1))), (some (20, false)), some (.int .u8)⟩,
    ⟨(some 23), .mov (.t 3), (some (20, false)), some (.int .u8)⟩,
    ⟨(some 24), .binI .gtr .u8 (.t 22) (.t 23), (some (20, false)), some .bool⟩,
    ⟨(some 25), .pick (.t 20) (.c (.fz (.bool true))) (.t 24), none, some .bool⟩])
   (.cond (.t 25) (.seq (.region [⟨(some 8), .mov (.c (.fz (.bool false))), none, some .bool⟩])
     (.ret))
    (.skip)))
  (.trim [0, 1] A_utf_tail_j2))⟩
def J_utf_tail_2_0 (R : Orc) (k : Nat) (w : Bool) (x0 : ByteArray) (x1 : Int) := execL R k w [] A_utf_tail_j2 Ans ⟨[(0, .fz (FV.str x0)), (1, .fz (FV.int .i64 x1))], [(4095, .dead)]⟩ (kFin R [(.tmp 8, .fz)] [])
def K_utf_tail_1 (R : Orc) (k : Nat) (w : Bool) : AExit → St → Option Ans := (kBlk 0 (kSeq R k w [] A_utf_tail_s1 (kFin R [(.tmp 8, .fz)] [])))
def L_utf_tail_1_0 (R : Orc) (k : Nat) (w : Bool) (n : Nat) (x0 : ByteArray) (x1 : Int) (x9 : Int) := loopL R k w [] [0, 1, 9] [8] A_utf_tail_b1 n ⟨[(0, .fz (FV.str x0)), (1, .fz (FV.int .i64 x1)), (9, .fz (FV.int .i64 x9))], [(4095, .dead)]⟩
def X_utf_tail_1_0 (x8 : Bool) : St := ⟨[(8, .fz (FV.bool x8))], [(4095, .dead)]⟩
def X_utf_tail_1_1 : St := ⟨[], [(4095, .dead)]⟩
theorem E_utf_tail (R : Orc) (k : Nat) (w : Bool) (a0 : ByteArray) (a1 : Int) (a2 : Int) (a3 : Int) : callL R k w A_utf_tail [.fz (FV.str a0), .fz (FV.int .i64 a1), .fz (FV.int .u8 a2), .fz (FV.int .u8 a3)] = ifB (decide ((ByteArray.size a0 : Int) ≤ a1))
  (some ([.fz (FV.bool false)], []))
  (when (decide (1 < (ByteArray.size a0 : Int))) (ifB (decide ((((Array.getD (ByteArray.data a0) 1 0).toNat : Nat) : Int) < a2))
   (some ([.fz (FV.bool false)], []))
   (when (decide (1 < (ByteArray.size a0 : Int))) (ifB (decide ((((Array.getD (ByteArray.data a0) 1 0).toNat : Nat) : Int) > a3))
    (some ([.fz (FV.bool false)], []))
    (jump w (J_utf_tail_2_0 R k w a0 a1)))))) := by kernel_rfl
theorem J_utf_tail_2_0_eq (R : Orc) (k : Nat) (w : Bool) (x0 : ByteArray) (x1 : Int) : J_utf_tail_2_0 R k w x0 x1 = onL (L_utf_tail_1_0 R k w k x0 x1 2) (K_utf_tail_1 R k w) := by kernel_rfl
theorem L_utf_tail_1_0_eq (R : Orc) (k : Nat) (w : Bool) (n : Nat) (x0 : ByteArray) (x1 : Int) (x9 : Int) : L_utf_tail_1_0 R k w (n + 1) x0 x1 x9 = ifB (decide (x9 ≤ x1))
  (when ((decide (0 ≤ x9)) && (decide (x9 < (ByteArray.size x0 : Int)))) (ifB (decide ((((Array.getD (ByteArray.data x0) (Int.toNat x9) 0).toNat : Nat) : Int) < 128))
   (some (.ret, X_utf_tail_1_0 false))
   (when ((decide (0 ≤ x9)) && (decide (x9 < (ByteArray.size x0 : Int)))) (ifB (decide ((((Array.getD (ByteArray.data x0) (Int.toNat x9) 0).toNat : Nat) : Int) > 191))
    (some (.ret, X_utf_tail_1_0 false))
    (L_utf_tail_1_0 R k w n x0 x1 (IntKind.wrap .i64 (x9 + 1)))))))
  (some ((.exit 0), X_utf_tail_1_1)) := by kernel_rfl
theorem X_utf_tail_1_0_eq (R : Orc) (k : Nat) (w : Bool) (x8 : Bool) : K_utf_tail_1 R k w .ret (X_utf_tail_1_0 x8) = some ([.fz (FV.bool x8)], []) := by kernel_rfl
theorem X_utf_tail_1_1_eq (R : Orc) (k : Nat) (w : Bool) : K_utf_tail_1 R k w (.exit 0) (X_utf_tail_1_1) = some ([.fz (FV.bool true)], []) := by kernel_rfl
end Go.Ab
