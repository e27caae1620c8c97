-- Written by a program of the session, out of the translation. Lean checks it.
import Derived.Test.YtpkhkbihmplhcaaA0
namespace Go.Ab
set_option linter.unusedVariables false
set_option maxRecDepth 100000
/-! keyhole/keyholelaw23.MeterRises -/
def A_law23_MeterRises_j1 : ACode := .seq (.draws [⟨⟨(some 114), .fadr 2 (.t 4), none, none⟩, []⟩,
  ⟨⟨(some 115), .load 1 false (.t 114), none, some .bool⟩, [0]⟩,
  ⟨⟨(some 116), .notB (.t 115), none, some .bool⟩, [1]⟩,
  ⟨⟨(some 117), .mov (.t 116), none, some .bool⟩, [2]⟩,
  ⟨⟨(some 118), .mov (.t 9), (some (117, true)), none⟩, [3]⟩,
  ⟨⟨(some 119), .call N_meter_Meter_End [((.t 118), .pv 8 true)] [.fz], (some (117, true)), some (.int .i64)⟩, [4, 3, 3]⟩,
  ⟨⟨(some 120), .binI .eql .i64 (.t 119) (.c (.fz (.int .i64 2))), (some (117, true)), some .bool⟩, [5, 3]⟩,
  ⟨⟨(some 121), .pick (.t 117) (.t 120) (.c (.fz (.bool false))), none, some .bool⟩, [3, 6]⟩,
  ⟨⟨(some 122), .mov (.t 121), none, some .bool⟩, [7, 5]⟩,
  ⟨⟨(some 123), .fadr 2 (.t 4), (some (122, false)), none⟩, [8]⟩,
  ⟨⟨(some 124), .load 1 false (.t 123), (some (122, false)), some .bool⟩, [9, 8]⟩,
  ⟨⟨(some 125), .mov (.t 124), (some (122, false)), some .bool⟩, [10, 8, 8]⟩,
  ⟨⟨(some 126), .mov (.t 9), (some (125, true)), none⟩, [11]⟩,
  ⟨⟨(some 127), .call N_meter_Meter_End [((.t 126), .pv 8 true)] [.fz], (some (125, true)), some (.int .i64)⟩, [12, 11, 11]⟩,
  ⟨⟨(some 128), .binI .eql .i64 (.t 127) (.c (.fz (.int .i64 0))), (some (125, true)), some .bool⟩, [13, 11]⟩,
  ⟨⟨(some 129), .pick (.t 125) (.t 128) (.c (.fz (.bool false))), (some (122, false)), some .bool⟩, [11, 14, 8]⟩,
  ⟨⟨(some 130), .mov (.t 129), (some (122, false)), some .bool⟩, [15, 13, 8]⟩,
  ⟨⟨(some 131), .mov (.t 7), (some (130, true)), none⟩, [16]⟩,
  ⟨⟨(some 132), .mov (.t 9), (some (130, true)), none⟩, [16]⟩,
  ⟨⟨(some 133), .call N_meter_Meter_Label [((.t 132), .pv 8 true)] [.fz], (some (130, true)), some (.int .i64)⟩, [18, 16, 16]⟩,
  ⟨⟨(some 134), .fadr 1 (.t 4), (some (130, true)), none⟩, [16]⟩,
  ⟨⟨(some 135), .load 1 false (.t 134), (some (130, true)), some (.int .i64)⟩, [20, 16]⟩,
  ⟨⟨(some 136), .call N_level_Lattice_Leq [((.t 131), .fz), ((.t 133), .fz), ((.t 135), .fz)] [.fz], (some (130, true)), some .bool⟩, [17, 19, 21, 19, 16]⟩,
  ⟨⟨(some 137), .notB (.t 136), (some (130, true)), some .bool⟩, [22, 16]⟩,
  ⟨⟨(some 138), .pick (.t 130) (.t 137) (.c (.fz (.bool false))), (some (122, false)), some .bool⟩, [16, 23, 8]⟩,
  ⟨⟨(some 139), .mov (.t 138), (some (122, false)), some .bool⟩, [24, 22, 8]⟩,
  ⟨⟨(some 140), .mov (.t 11), (some (139, true)), some (.int .i64)⟩, [25]⟩,
  ⟨⟨(some 141), .binI .gtr .i64 (.t 140) (.c (.fz (.int .i64 0))), (some (139, true)), some .bool⟩, [26, 25]⟩,
  ⟨⟨(some 142), .pick (.t 139) (.t 141) (.c (.fz (.bool false))), (some (122, false)), some .bool⟩, [25, 27, 8]⟩,
  ⟨⟨(some 143), .mov (.t 142), (some (122, false)), some .bool⟩, [28, 25, 8]⟩,
  ⟨⟨(some 144), .mov (.t 2), (some (143, true)), none⟩, [29]⟩,
  ⟨⟨(some 145), .mov (.t 11), (some (143, true)), some (.int .i64)⟩, [29]⟩,
  ⟨⟨(some 146), .iadr (.sl 3 true) (.t 144) (.t 145), (some (143, true)), none⟩, [30, 31, 29]⟩,
  ⟨⟨(some 147), .fadr 0 (.t 146), (some (143, true)), none⟩, [32, 29]⟩,
  ⟨⟨(some 148), .load 1 false (.t 147), (some (143, true)), some (.int .i64)⟩, [33, 29]⟩,
  ⟨⟨(some 149), .binI .eql .i64 (.t 148) (.c (.fz (.int .i64 1))), (some (143, true)), some .bool⟩, [34, 29]⟩,
  ⟨⟨(some 150), .pick (.t 143) (.t 149) (.c (.fz (.bool false))), (some (122, false)), some .bool⟩, [29, 35, 8]⟩,
  ⟨⟨(some 151), .pick (.t 122) (.c (.fz (.bool true))) (.t 150), none, some .bool⟩, [8, 36]⟩])
 (.cond (.t 151) (.seq (.region [⟨(some 6), .mov (.c (.fz (.bool false))), none, some .bool⟩])
   (.ret))
  (.skip))
def A_law23_MeterRises_j2 : ACode := .seq (.seq (.region [⟨(some 75), .mov (.t 7), none, none⟩,
   ⟨(some 76), .mov (.t 12), none, some (.int .i64)⟩,
   ⟨(some 77), .mov (.t 9), none, none⟩,
   ⟨(some 78), .call N_meter_Meter_Label [((.t 77), .pv 8 true)] [.fz], none, some (.int .i64)⟩,
   ⟨(some 79), .call N_level_Lattice_Leq [((.t 75), .fz), ((.t 76), .fz), ((.t 78), .fz)] [.fz], none, some .bool⟩,
   ⟨(some 80), .notB (.t 79), none, some .bool⟩,
   ⟨(some 81), .mov (.t 80), none, some .bool⟩,
   ⟨(some 82), .mov (.t 9), (some (81, false)), none⟩,
   ⟨(some 83), .call N_meter_Meter_Left [((.t 82), .pv 8 true)] [.fz], (some (81, false)), some (.int .i64)⟩,
   ⟨(some 84), .mov (.t 13), (some (81, false)), some (.int .i64)⟩,
   ⟨(some 85), .binI .gtr .i64 (.t 83) (.t 84), (some (81, false)), some .bool⟩,
   ⟨(some 86), .pick (.t 81) (.c (.fz (.bool true))) (.t 85), none, some .bool⟩,
   ⟨(some 87), .mov (.t 86), none, some .bool⟩,
   ⟨(some 88), .mov (.t 9), (some (87, false)), none⟩,
   ⟨(some 89), .call N_meter_Meter_Left [((.t 88), .pv 8 true)] [.fz], (some (87, false)), some (.int .i64)⟩,
   ⟨(some 90), .binI .lss .i64 (.t 89) (.c (.fz (.int .i64 0))), (some (87, false)), some .bool⟩,
   ⟨(some 91), .pick (.t 87) (.c (.fz (.bool true))) (.t 90), none, some .bool⟩,
   ⟨(some 92), .mov (.t 91), none, some .bool⟩,
   ⟨(some 93), .mov (.t 14), (some (92, false)), some (.int .i64)⟩,
   ⟨(some 94), .binI .neq .i64 (.t 93) (.c (.fz (.int .i64 0))), (some (92, false)), some .bool⟩,
   ⟨(some 95), .mov (.t 94), (some (92, false)), some .bool⟩,
   ⟨(some 96), .mov (.t 9), (some (95, true)), none⟩,
   ⟨(some 97), .call N_meter_Meter_End [((.t 96), .pv 8 true)] [.fz], (some (95, true)), some (.int .i64)⟩,
   ⟨(some 98), .mov (.t 14), (some (95, true)), some (.int .i64)⟩,
   ⟨(some 99), .binI .neq .i64 (.t 97) (.t 98), (some (95, true)), some .bool⟩,
   ⟨(some 100), .mov (.t 99), (some (95, true)), some .bool⟩,
   ⟨(some 101), .mov (.t 9), (some (100, false)), none⟩,
   ⟨(some 102), .call N_meter_Meter_Label [((.t 101), .pv 8 true)] [.fz], (some (100, false)), some (.int .i64)⟩,
   ⟨(some 103), .mov (.t 12), (some (100, false)), some (.int .i64)⟩,
   ⟨(some 104), .binI .neq .i64 (.t 102) (.t 103), (some (100, false)), some .bool⟩,
   ⟨(some 105), .pick (.t 100) (.c (.fz (.bool true))) (.t 104), (some (95, true)), some .bool⟩,
   ⟨(some 106), .mov (.t 105), (some (95, true)), some .bool⟩,
   ⟨(some 107), .mov (.t 9), (some (106, false)), none⟩,
   ⟨(some 108), .call N_meter_Meter_Left [((.t 107), .pv 8 true)] [.fz], (some (106, false)), some (.int .i64)⟩,
   ⟨(some 109), .mov (.t 13), (some (106, false)), some (.int .i64)⟩,
   ⟨(some 110), .binI .neq .i64 (.t 108) (.t 109), (some (106, false)), some .bool⟩,
   ⟨(some 111), .pick (.t 106) (.c (.fz (.bool true))) (.t 110), (some (95, true)), some .bool⟩,
   ⟨(some 112), .pick (.t 95) (.t 111) (.c (.fz (.bool false))), (some (92, false)), some .bool⟩,
   ⟨(some 113), .pick (.t 92) (.c (.fz (.bool true))) (.t 112), none, some .bool⟩])
  (.cond (.t 113) (.seq (.region [⟨(some 6), .mov (.c (.fz (.bool false))), none, some .bool⟩])
    (.ret))
   (.skip)))
 (.trim [2, 4, 7, 9, 11] A_law23_MeterRises_j1)
def A_law23_MeterRises_s3 : ACode := .region [⟨(some 42), .mov (.t 11), none, some (.int .i64)⟩,
 ⟨(some 43), .binI .add .i64 (.t 42) (.c (.fz (.int .i64 1))), none, some (.int .i64)⟩,
 ⟨(some 11), .mov (.t 43), none, some (.int .i64)⟩]
def A_law23_MeterRises_b1 : ACode := .seq (.seq (.region [⟨(some 38), .mov (.t 11), none, some (.int .i64)⟩,
   ⟨(some 39), .mov (.t 2), none, none⟩,
   ⟨(some 40), .len (.sl 3 true) (.t 39), none, some (.int .i64)⟩,
   ⟨(some 41), .binI .lss .i64 (.t 38) (.t 40), none, some .bool⟩])
  (.cond (.t 41) (.skip)
   (.exit 0)))
 (.seq (.block 1 (.seq (.region [⟨(some 44), .mov (.t 9), none, none⟩,
     ⟨(some 45), .call N_meter_Meter_Label [((.t 44), .pv 8 true)] [.fz], none, some (.int .i64)⟩,
     ⟨(some 46), .mov (.t 9), none, none⟩,
     ⟨(some 47), .call N_meter_Meter_Left [((.t 46), .pv 8 true)] [.fz], none, some (.int .i64)⟩,
     ⟨(some 48), .mov (.t 9), none, none⟩,
     ⟨(some 49), .call N_meter_Meter_End [((.t 48), .pv 8 true)] [.fz], none, some (.int .i64)⟩,
     ⟨(some 12), .mov (.t 45), none, some (.int .i64)⟩,
     ⟨(some 13), .mov (.t 47), none, some (.int .i64)⟩,
     ⟨(some 14), .mov (.t 49), none, some (.int .i64)⟩])
    (.seq (.seq (.region [⟨(some 50), .mov (.t 2), none, none⟩,
       ⟨(some 51), .mov (.t 11), none, some (.int .i64)⟩,
       ⟨(some 52), .iadr (.sl 3 true) (.t 50) (.t 51), none, none⟩,
       ⟨(some 53), .fadr 0 (.t 52), none, none⟩,
       ⟨(some 54), .load 1 false (.t 53), none, some (.int .i64)⟩])
      (.block 2 (.seq (.region [⟨(some 58), .binI .eql .i64 (.t 54) (.c (.fz (.int .i64 0))), none, some .bool⟩,
         ⟨(some 57), .mov (.t 58), none, some .bool⟩])
        (.cond (.t 57) (.region [⟨(some 59), .mov (.t 9), none, none⟩,
          ⟨(some 60), .mov (.t 2), none, none⟩,
          ⟨(some 61), .mov (.t 11), none, some (.int .i64)⟩,
          ⟨(some 62), .iadr (.sl 3 true) (.t 60) (.t 61), none, none⟩,
          ⟨(some 63), .fadr 1 (.t 62), none, none⟩,
          ⟨(some 64), .load 1 false (.t 63), none, some (.int .i64)⟩,
          ⟨(some 65), .call N_meter_Meter_Spend [((.t 59), .pv 8 true), ((.t 64), .fz)] [.fz], none, some .bool⟩])
         (.seq (.region [⟨(some 67), .binI .eql .i64 (.t 54) (.c (.fz (.int .i64 1))), none, some .bool⟩,
           ⟨(some 66), .mov (.t 67), none, some .bool⟩])
          (.cond (.t 66) (.region [⟨(some 68), .mov (.t 9), none, none⟩,
            ⟨(some 69), .mov (.t 2), none, none⟩,
            ⟨(some 70), .mov (.t 11), none, some (.int .i64)⟩,
            ⟨(some 71), .iadr (.sl 3 true) (.t 69) (.t 70), none, none⟩,
            ⟨(some 72), .fadr 1 (.t 71), none, none⟩,
            ⟨(some 73), .load 1 false (.t 72), none, some (.int .i64)⟩,
            ⟨(some 74), .call N_meter_Meter_Raise [((.t 68), .pv 8 true), ((.t 73), .fz)] [.fz], none, some .bool⟩])
           (.region [⟨(some 55), .mov (.t 9), none, none⟩,
            ⟨(some 56), .call N_meter_Meter_Tell [((.t 55), .pv 8 true)] [.fz], none, some .bool⟩])))))))
     (.trim [2, 4, 7, 9, 11, 12, 13, 14] A_law23_MeterRises_j2))))
  A_law23_MeterRises_s3)
def A_law23_MeterRises_s4 : ACode := .seq (.region [⟨(some 152), .call N_law23_lives [] [.fz], none, some .bool⟩,
  ⟨(some 6), .mov (.t 152), none, some .bool⟩])
 (.ret)
def A_law23_MeterRises_j5 : ACode := .seq (.seq (.region [⟨(some 11), .mov (.c (.fz (.int .i64 0))), none, some (.int .i64)⟩])
  (.block 0 (.loop [2, 4, 7, 9, 11] [6] A_law23_MeterRises_b1)))
 A_law23_MeterRises_s4
def A_law23_MeterRises : AFunc := ⟨3, [(.tmp 6, .fz)], .seq (.region [⟨(some 4), .box 3 true (.t 1), none, none⟩,
  ⟨(some 6), .mov (.c (.fz (.bool false))), none, some .bool⟩])
 (.seq (.region [⟨(some 16), .mov (.t 0), none, some (.int .i64)⟩,
   ⟨(some 17), .call N_law23_of [((.t 16), .fz)] [.fz, .fz], none, none⟩,
   ⟨(some 15), .mov (.t 17), none, none⟩,
   ⟨(some 18), .extract (.t 15) 0, none, none⟩,
   ⟨(some 19), .extract (.t 15) 1, none, none⟩,
   ⟨(some 7), .mov (.t 18), none, none⟩,
   ⟨(some 8), .mov (.t 19), none, none⟩])
  (.seq (.region [⟨(some 21), .mov (.t 7), none, none⟩,
    ⟨(some 22), .load 3 true (.t 4), none, none⟩,
    ⟨(some 23), .call N_meter_New [((.t 21), .fz), ((.t 22), .fz)] [.pv 8 true, .fz], none, none⟩,
    ⟨(some 20), .mov (.t 23), none, none⟩,
    ⟨(some 24), .extract (.t 20) 0, none, none⟩,
    ⟨(some 25), .extract (.t 20) 1, none, some (.int .i64)⟩,
    ⟨(some 9), .mov (.t 24), none, none⟩,
    ⟨(some 10), .mov (.t 25), none, some (.int .i64)⟩])
   (.seq (.seq (.region [⟨(some 26), .mov (.t 10), none, some (.int .i64)⟩,
      ⟨(some 27), .binI .neq .i64 (.t 26) (.c (.fz (.int .i64 0))), none, some .bool⟩,
      ⟨(some 28), .mov (.t 27), none, some .bool⟩,
      ⟨(some 29), .mov (.t 2), (some (28, false)), none⟩,
      ⟨(some 30), .len (.sl 3 true) (.t 29), (some (28, false)), some (.int .i64)⟩,
      ⟨(some 31), .binI .gtr .i64 (.t 30) (.c (.fz (.int .i64 40))), (some (28, false)), some .bool⟩,
      ⟨(some 32), .pick (.t 28) (.c (.fz (.bool true))) (.t 31), none, some .bool⟩,
      ⟨(some 33), .mov (.t 32), none, some .bool⟩,
      ⟨(some 34), .mov (.t 7), (some (33, false)), none⟩,
      ⟨(some 35), .eqNil false (.t 34), (some (33, false)), some .bool⟩,
      ⟨(some 36), .pick (.t 33) (.c (.fz (.bool true))) (.t 35), none, some .bool⟩])
     (.cond (.t 36) (.seq (.region [⟨(some 37), .call N_law23_lives [] [.fz], none, some .bool⟩,
        ⟨(some 6), .mov (.t 37), none, some .bool⟩])
       (.ret))
      (.skip)))
    (.trim [2, 4, 7, 9] A_law23_MeterRises_j5))))⟩
def J_law23_MeterRises_5_0 (R : Orc) (k : Nat) (w : Bool) (x2 : List FV) (x7 : FV) (h4096_0 : Int) (h4096_1 : Int) (h4096_2 : Bool) := execL R k w [] A_law23_MeterRises_j5 Ans ⟨[(2, .fz (FV.sl x2)), (4, .ptr 4096 0 0), (7, .fz x7), (9, .fz FV.nilp)], [(4095, .dead), (4096, .var 3 true (.fz (FV.ag [(FV.int .i64 h4096_0), (FV.int .i64 h4096_1), (FV.bool h4096_2)])))]⟩ (kFin R [(.tmp 6, .fz)] [])
def J_law23_MeterRises_5_1 (R : Orc) (k : Nat) (w : Bool) (x2 : List FV) (x7 : FV) (h4096_0 : Int) (h4096_1 : Int) (h4096_2 : Bool) (h4097 : FV) := execL R k w [] A_law23_MeterRises_j5 Ans ⟨[(2, .fz (FV.sl x2)), (4, .ptr 4096 0 0), (7, .fz x7), (9, .ptr 4097 0 0)], [(4095, .dead), (4096, .var 3 true (.fz (FV.ag [(FV.int .i64 h4096_0), (FV.int .i64 h4096_1), (FV.bool h4096_2)]))), (4097, .var 8 true (.fz h4097))]⟩ (kFin R [(.tmp 6, .fz)] [])
def K_law23_MeterRises_1 (R : Orc) (k : Nat) (w : Bool) : AExit → St → Option Ans := (kBlk 0 (kSeq R k w [] A_law23_MeterRises_s4 (kFin R [(.tmp 6, .fz)] [])))
def L_law23_MeterRises_1_0 (R : Orc) (k : Nat) (w : Bool) (n : Nat) (x2 : List FV) (x7 : FV) (x11 : Int) (h4096_0 : Int) (h4096_1 : Int) (h4096_2 : Bool) := loopL R k w [] [2, 4, 7, 9, 11] [6] A_law23_MeterRises_b1 n ⟨[(2, .fz (FV.sl x2)), (4, .ptr 4096 0 0), (7, .fz x7), (9, .fz FV.nilp), (11, .fz (FV.int .i64 x11))], [(4095, .dead), (4096, .var 3 true (.fz (FV.ag [(FV.int .i64 h4096_0), (FV.int .i64 h4096_1), (FV.bool h4096_2)])))]⟩
def L_law23_MeterRises_1_1 (R : Orc) (k : Nat) (w : Bool) (n : Nat) (x2 : List FV) (x7 : FV) (x11 : Int) (h4096_0 : Int) (h4096_1 : Int) (h4096_2 : Bool) (h4097 : FV) := loopL R k w [] [2, 4, 7, 9, 11] [6] A_law23_MeterRises_b1 n ⟨[(2, .fz (FV.sl x2)), (4, .ptr 4096 0 0), (7, .fz x7), (9, .ptr 4097 0 0), (11, .fz (FV.int .i64 x11))], [(4095, .dead), (4096, .var 3 true (.fz (FV.ag [(FV.int .i64 h4096_0), (FV.int .i64 h4096_1), (FV.bool h4096_2)]))), (4097, .var 8 true (.fz h4097))]⟩
def J_law23_MeterRises_2_0 (R : Orc) (k : Nat) (w : Bool) (n : Nat) (x2 : List FV) (x7 : FV) (x11 : Int) (x12 : Int) (x13 : Int) (x14 : Int) (h4096_0 : Int) (h4096_1 : Int) (h4096_2 : Bool) := execL R k w [] A_law23_MeterRises_j2 (AExit × St) ⟨[(2, .fz (FV.sl x2)), (4, .ptr 4096 0 0), (7, .fz x7), (9, .fz FV.nilp), (11, .fz (FV.int .i64 x11)), (12, .fz (FV.int .i64 x12)), (13, .fz (FV.int .i64 x13)), (14, .fz (FV.int .i64 x14))], [(4095, .dead), (4096, .var 3 true (.fz (FV.ag [(FV.int .i64 h4096_0), (FV.int .i64 h4096_1), (FV.bool h4096_2)])))]⟩ (kBlk 1 (kSeq R k w [] A_law23_MeterRises_s3 (kLoop R k w [] [2, 4, 7, 9, 11] [6] A_law23_MeterRises_b1 n)))
def X_law23_MeterRises_1_0 : St := ⟨[], [(4095, .dead)]⟩
def J_law23_MeterRises_2_1 (R : Orc) (k : Nat) (w : Bool) (n : Nat) (x2 : List FV) (x7 : FV) (x11 : Int) (x12 : Int) (x13 : Int) (x14 : Int) (h4096_0 : Int) (h4096_1 : Int) (h4096_2 : Bool) (h4097 : FV) := execL R k w [] A_law23_MeterRises_j2 (AExit × St) ⟨[(2, .fz (FV.sl x2)), (4, .ptr 4096 0 0), (7, .fz x7), (9, .ptr 4097 0 0), (11, .fz (FV.int .i64 x11)), (12, .fz (FV.int .i64 x12)), (13, .fz (FV.int .i64 x13)), (14, .fz (FV.int .i64 x14))], [(4095, .dead), (4096, .var 3 true (.fz (FV.ag [(FV.int .i64 h4096_0), (FV.int .i64 h4096_1), (FV.bool h4096_2)]))), (4097, .var 8 true (.fz h4097))]⟩ (kBlk 1 (kSeq R k w [] A_law23_MeterRises_s3 (kLoop R k w [] [2, 4, 7, 9, 11] [6] A_law23_MeterRises_b1 n)))
def X_law23_MeterRises_1_1 (x6 : Bool) : St := ⟨[(6, .fz (FV.bool x6))], [(4095, .dead)]⟩
def J_law23_MeterRises_1_0 (R : Orc) (k : Nat) (w : Bool) (n : Nat) (x2 : List FV) (x7 : FV) (x11 : Int) (h4096_0 : Int) (h4096_1 : Int) (h4096_2 : Bool) := execL R k w [] A_law23_MeterRises_j1 (AExit × St) ⟨[(2, .fz (FV.sl x2)), (4, .ptr 4096 0 0), (7, .fz x7), (9, .fz FV.nilp), (11, .fz (FV.int .i64 x11))], [(4095, .dead), (4096, .var 3 true (.fz (FV.ag [(FV.int .i64 h4096_0), (FV.int .i64 h4096_1), (FV.bool h4096_2)])))]⟩ (kBlk 1 (kSeq R k w [] A_law23_MeterRises_s3 (kLoop R k w [] [2, 4, 7, 9, 11] [6] A_law23_MeterRises_b1 n)))
def J_law23_MeterRises_1_1 (R : Orc) (k : Nat) (w : Bool) (n : Nat) (x2 : List FV) (x7 : FV) (x11 : Int) (h4096_0 : Int) (h4096_1 : Int) (h4096_2 : Bool) (h4097 : FV) := execL R k w [] A_law23_MeterRises_j1 (AExit × St) ⟨[(2, .fz (FV.sl x2)), (4, .ptr 4096 0 0), (7, .fz x7), (9, .ptr 4097 0 0), (11, .fz (FV.int .i64 x11))], [(4095, .dead), (4096, .var 3 true (.fz (FV.ag [(FV.int .i64 h4096_0), (FV.int .i64 h4096_1), (FV.bool h4096_2)]))), (4097, .var 8 true (.fz h4097))]⟩ (kBlk 1 (kSeq R k w [] A_law23_MeterRises_s3 (kLoop R k w [] [2, 4, 7, 9, 11] [6] A_law23_MeterRises_b1 n)))
theorem E_law23_MeterRises (R : Orc) (k : Nat) (w : Bool) (a0 : Int) (a1_0 : Int) (a1_1 : Int) (a1_2 : Bool) (a2 : List FV) : callL R k w A_law23_MeterRises [.fz (FV.int .i64 a0), .fz (FV.ag [(FV.int .i64 a1_0), (FV.int .i64 a1_1), (FV.bool a1_2)]), .fz (FV.sl a2)] = onR (R N_law23_of [.fz (FV.int .i64 a0)]) fun r0 => when (List.isEmpty r0.2 && allF [.fz, .fz] r0.1) (onR (R N_meter_New [.fz (TV.toF (List.getD r0.1 0 TV.em)), .fz (FV.ag [(FV.int .i64 a1_0), (FV.int .i64 a1_1), (FV.bool a1_2)])]) fun r1 => when (List.length r1.2 == 0 && (List.all r1.2 LV.isFz && List.length r1.1 == 2)) (ifB (TV.isF (List.getD r1.1 0 TV.em))
  (when (FV.isNil (TV.toF (List.getD r1.1 0 TV.em))) (when (TV.isF (List.getD r1.1 1 TV.em)) (when (FV.isInt .i64 (TV.toF (List.getD r1.1 1 TV.em))) (ifB ((FV.toInt (TV.toF (List.getD r1.1 1 TV.em))) != 0)
   (onR (R N_law23_lives []) fun r2 => when (List.isEmpty r2.2 && allF [.fz] r2.1) (when (FV.isBool (TV.toF (List.getD r2.1 0 TV.em))) (some ([.fz (FV.bool (FV.toBool (TV.toF (List.getD r2.1 0 TV.em))))], []))))
   (ifB (decide ((List.length a2 : Int) > 40))
    (onR (R N_law23_lives []) fun r3 => when (List.isEmpty r3.2 && allF [.fz] r3.1) (when (FV.isBool (TV.toF (List.getD r3.1 0 TV.em))) (some ([.fz (FV.bool (FV.toBool (TV.toF (List.getD r3.1 0 TV.em))))], []))))
    (when (FV.isPt (TV.toF (List.getD r0.1 0 TV.em)) || FV.isNil (TV.toF (List.getD r0.1 0 TV.em))) (ifB (FV.isNil (TV.toF (List.getD r0.1 0 TV.em)))
     (onR (R N_law23_lives []) fun r4 => when (List.isEmpty r4.2 && allF [.fz] r4.1) (when (FV.isBool (TV.toF (List.getD r4.1 0 TV.em))) (some ([.fz (FV.bool (FV.toBool (TV.toF (List.getD r4.1 0 TV.em))))], []))))
     (jump w (J_law23_MeterRises_5_0 R k w a2 (TV.toF (List.getD r0.1 0 TV.em)) a1_0 a1_1 a1_2)))))))))
  (when (TV.isPv 8 true (List.getD r1.1 0 TV.em)) (when (TV.isF (List.getD r1.1 1 TV.em)) (when (FV.isInt .i64 (TV.toF (List.getD r1.1 1 TV.em))) (ifB ((FV.toInt (TV.toF (List.getD r1.1 1 TV.em))) != 0)
   (onR (R N_law23_lives []) fun r5 => when (List.isEmpty r5.2 && allF [.fz] r5.1) (when (FV.isBool (TV.toF (List.getD r5.1 0 TV.em))) (some ([.fz (FV.bool (FV.toBool (TV.toF (List.getD r5.1 0 TV.em))))], []))))
   (ifB (decide ((List.length a2 : Int) > 40))
    (onR (R N_law23_lives []) fun r6 => when (List.isEmpty r6.2 && allF [.fz] r6.1) (when (FV.isBool (TV.toF (List.getD r6.1 0 TV.em))) (some ([.fz (FV.bool (FV.toBool (TV.toF (List.getD r6.1 0 TV.em))))], []))))
    (when (FV.isPt (TV.toF (List.getD r0.1 0 TV.em)) || FV.isNil (TV.toF (List.getD r0.1 0 TV.em))) (ifB (FV.isNil (TV.toF (List.getD r0.1 0 TV.em)))
     (onR (R N_law23_lives []) fun r7 => when (List.isEmpty r7.2 && allF [.fz] r7.1) (when (FV.isBool (TV.toF (List.getD r7.1 0 TV.em))) (some ([.fz (FV.bool (FV.toBool (TV.toF (List.getD r7.1 0 TV.em))))], []))))
     (jump w (J_law23_MeterRises_5_1 R k w a2 (TV.toF (List.getD r0.1 0 TV.em)) a1_0 a1_1 a1_2 (TV.toV (List.getD r1.1 0 TV.em))))))))))))) := by kernel_rfl
theorem J_law23_MeterRises_5_0_eq (R : Orc) (k : Nat) (w : Bool) (x2 : List FV) (x7 : FV) (h4096_0 : Int) (h4096_1 : Int) (h4096_2 : Bool) : J_law23_MeterRises_5_0 R k w x2 x7 h4096_0 h4096_1 h4096_2 = onL (L_law23_MeterRises_1_0 R k w k x2 x7 0 h4096_0 h4096_1 h4096_2) (K_law23_MeterRises_1 R k w) := by kernel_rfl
theorem J_law23_MeterRises_5_1_eq (R : Orc) (k : Nat) (w : Bool) (x2 : List FV) (x7 : FV) (h4096_0 : Int) (h4096_1 : Int) (h4096_2 : Bool) (h4097 : FV) : J_law23_MeterRises_5_1 R k w x2 x7 h4096_0 h4096_1 h4096_2 h4097 = onL (L_law23_MeterRises_1_1 R k w k x2 x7 0 h4096_0 h4096_1 h4096_2 h4097) (K_law23_MeterRises_1 R k w) := by kernel_rfl
theorem L_law23_MeterRises_1_0_eq (R : Orc) (k : Nat) (w : Bool) (n : Nat) (x2 : List FV) (x7 : FV) (x11 : Int) (h4096_0 : Int) (h4096_1 : Int) (h4096_2 : Bool) : L_law23_MeterRises_1_0 R k w (n + 1) x2 x7 x11 h4096_0 h4096_1 h4096_2 = ifB (decide (x11 < (List.length x2 : Int)))
  (onR (R N_meter_Meter_Label [.fz .nilp]) fun r8 => when (List.isEmpty r8.2 && allF [.fz] r8.1) (when (FV.isInt .i64 (TV.toF (List.getD r8.1 0 TV.em))) (onR (R N_meter_Meter_Left [.fz .nilp]) fun r9 => when (List.isEmpty r9.2 && allF [.fz] r9.1) (when (FV.isInt .i64 (TV.toF (List.getD r9.1 0 TV.em))) (onR (R N_meter_Meter_End [.fz .nilp]) fun r10 => when (List.isEmpty r10.2 && allF [.fz] r10.1) (when (FV.isInt .i64 (TV.toF (List.getD r10.1 0 TV.em))) (when ((decide (0 ≤ x11)) && (decide (x11 < (List.length x2 : Int)))) (when (FV.fits 3 true (List.getD x2 (Int.toNat x11) FV.nilp)) (when (FV.isAg 3 (List.getD x2 (Int.toNat x11) FV.nilp)) (when (FV.isInt .i64 (FV.cell (List.getD x2 (Int.toNat x11) FV.nilp) 0)) (ifB ((FV.toInt (FV.cell (List.getD x2 (Int.toNat x11) FV.nilp) 0)) == 0)
   (when ((decide (0 ≤ x11)) && (decide (x11 < (List.length x2 : Int)))) (when (FV.fits 3 true (List.getD x2 (Int.toNat x11) FV.nilp)) (when (FV.isAg 3 (List.getD x2 (Int.toNat x11) FV.nilp)) (when (FV.isInt .i64 (FV.cell (List.getD x2 (Int.toNat x11) FV.nilp) 1)) (onR (R N_meter_Meter_Spend [.fz .nilp, .fz (FV.int .i64 (FV.toInt (FV.cell (List.getD x2 (Int.toNat x11) FV.nilp) 1)))]) fun r11 => when (List.isEmpty r11.2 && allF [.fz] r11.1) (when (FV.isBool (TV.toF (List.getD r11.1 0 TV.em))) (jump w (J_law23_MeterRises_2_0 R k w n x2 x7 x11 (FV.toInt (TV.toF (List.getD r8.1 0 TV.em))) (FV.toInt (TV.toF (List.getD r9.1 0 TV.em))) (FV.toInt (TV.toF (List.getD r10.1 0 TV.em))) h4096_0 h4096_1 h4096_2))))))))
   (ifB ((FV.toInt (FV.cell (List.getD x2 (Int.toNat x11) FV.nilp) 0)) == 1)
    (when ((decide (0 ≤ x11)) && (decide (x11 < (List.length x2 : Int)))) (when (FV.fits 3 true (List.getD x2 (Int.toNat x11) FV.nilp)) (when (FV.isAg 3 (List.getD x2 (Int.toNat x11) FV.nilp)) (when (FV.isInt .i64 (FV.cell (List.getD x2 (Int.toNat x11) FV.nilp) 1)) (onR (R N_meter_Meter_Raise [.fz .nilp, .fz (FV.int .i64 (FV.toInt (FV.cell (List.getD x2 (Int.toNat x11) FV.nilp) 1)))]) fun r12 => when (List.isEmpty r12.2 && allF [.fz] r12.1) (when (FV.isBool (TV.toF (List.getD r12.1 0 TV.em))) (jump w (J_law23_MeterRises_2_0 R k w n x2 x7 x11 (FV.toInt (TV.toF (List.getD r8.1 0 TV.em))) (FV.toInt (TV.toF (List.getD r9.1 0 TV.em))) (FV.toInt (TV.toF (List.getD r10.1 0 TV.em))) h4096_0 h4096_1 h4096_2))))))))
    (onR (R N_meter_Meter_Tell [.fz .nilp]) fun r13 => when (List.isEmpty r13.2 && allF [.fz] r13.1) (when (FV.isBool (TV.toF (List.getD r13.1 0 TV.em))) (jump w (J_law23_MeterRises_2_0 R k w n x2 x7 x11 (FV.toInt (TV.toF (List.getD r8.1 0 TV.em))) (FV.toInt (TV.toF (List.getD r9.1 0 TV.em))) (FV.toInt (TV.toF (List.getD r10.1 0 TV.em))) h4096_0 h4096_1 h4096_2))))))))))))))))
  (some ((.exit 0), X_law23_MeterRises_1_0)) := by kernel_rfl
theorem L_law23_MeterRises_1_1_eq (R : Orc) (k : Nat) (w : Bool) (n : Nat) (x2 : List FV) (x7 : FV) (x11 : Int) (h4096_0 : Int) (h4096_1 : Int) (h4096_2 : Bool) (h4097 : FV) : L_law23_MeterRises_1_1 R k w (n + 1) x2 x7 x11 h4096_0 h4096_1 h4096_2 h4097 = ifB (decide (x11 < (List.length x2 : Int)))
  (onR (R N_meter_Meter_Label [.pv 8 true (.fz h4097)]) fun r14 => when (List.length r14.2 == 1 && (List.all r14.2 LV.isFz && List.length r14.1 == 1)) (when (TV.isF (List.getD r14.1 0 TV.em)) (when (FV.isInt .i64 (TV.toF (List.getD r14.1 0 TV.em))) (onR (R N_meter_Meter_Left [.pv 8 true (.fz (LV.toFz (List.getD r14.2 0 LV.nils)))]) fun r15 => when (List.length r15.2 == 1 && (List.all r15.2 LV.isFz && List.length r15.1 == 1)) (when (TV.isF (List.getD r15.1 0 TV.em)) (when (FV.isInt .i64 (TV.toF (List.getD r15.1 0 TV.em))) (onR (R N_meter_Meter_End [.pv 8 true (.fz (LV.toFz (List.getD r15.2 0 LV.nils)))]) fun r16 => when (List.length r16.2 == 1 && (List.all r16.2 LV.isFz && List.length r16.1 == 1)) (when (TV.isF (List.getD r16.1 0 TV.em)) (when (FV.isInt .i64 (TV.toF (List.getD r16.1 0 TV.em))) (when ((decide (0 ≤ x11)) && (decide (x11 < (List.length x2 : Int)))) (when (FV.fits 3 true (List.getD x2 (Int.toNat x11) FV.nilp)) (when (FV.isAg 3 (List.getD x2 (Int.toNat x11) FV.nilp)) (when (FV.isInt .i64 (FV.cell (List.getD x2 (Int.toNat x11) FV.nilp) 0)) (ifB ((FV.toInt (FV.cell (List.getD x2 (Int.toNat x11) FV.nilp) 0)) == 0)
   (when ((decide (0 ≤ x11)) && (decide (x11 < (List.length x2 : Int)))) (when (FV.fits 3 true (List.getD x2 (Int.toNat x11) FV.nilp)) (when (FV.isAg 3 (List.getD x2 (Int.toNat x11) FV.nilp)) (when (FV.isInt .i64 (FV.cell (List.getD x2 (Int.toNat x11) FV.nilp) 1)) (onR (R N_meter_Meter_Spend [.pv 8 true (.fz (LV.toFz (List.getD r16.2 0 LV.nils))), .fz (FV.int .i64 (FV.toInt (FV.cell (List.getD x2 (Int.toNat x11) FV.nilp) 1)))]) fun r17 => when (List.length r17.2 == 1 && (List.all r17.2 LV.isFz && List.length r17.1 == 1)) (when (TV.isF (List.getD r17.1 0 TV.em)) (when (FV.isBool (TV.toF (List.getD r17.1 0 TV.em))) (jump w (J_law23_MeterRises_2_1 R k w n x2 x7 x11 (FV.toInt (TV.toF (List.getD r14.1 0 TV.em))) (FV.toInt (TV.toF (List.getD r15.1 0 TV.em))) (FV.toInt (TV.toF (List.getD r16.1 0 TV.em))) h4096_0 h4096_1 h4096_2 (LV.toFz (List.getD r17.2 0 LV.nils)))))))))))
   (ifB ((FV.toInt (FV.cell (List.getD x2 (Int.toNat x11) FV.nilp) 0)) == 1)
    (when ((decide (0 ≤ x11)) && (decide (x11 < (List.length x2 : Int)))) (when (FV.fits 3 true (List.getD x2 (Int.toNat x11) FV.nilp)) (when (FV.isAg 3 (List.getD x2 (Int.toNat x11) FV.nilp)) (when (FV.isInt .i64 (FV.cell (List.getD x2 (Int.toNat x11) FV.nilp) 1)) (onR (R N_meter_Meter_Raise [.pv 8 true (.fz (LV.toFz (List.getD r16.2 0 LV.nils))), .fz (FV.int .i64 (FV.toInt (FV.cell (List.getD x2 (Int.toNat x11) FV.nilp) 1)))]) fun r18 => when (List.length r18.2 == 1 && (List.all r18.2 LV.isFz && List.length r18.1 == 1)) (when (TV.isF (List.getD r18.1 0 TV.em)) (when (FV.isBool (TV.toF (List.getD r18.1 0 TV.em))) (jump w (J_law23_MeterRises_2_1 R k w n x2 x7 x11 (FV.toInt (TV.toF (List.getD r14.1 0 TV.em))) (FV.toInt (TV.toF (List.getD r15.1 0 TV.em))) (FV.toInt (TV.toF (List.getD r16.1 0 TV.em))) h4096_0 h4096_1 h4096_2 (LV.toFz (List.getD r18.2 0 LV.nils)))))))))))
    (onR (R N_meter_Meter_Tell [.pv 8 true (.fz (LV.toFz (List.getD r16.2 0 LV.nils)))]) fun r19 => when (List.length r19.2 == 1 && (List.all r19.2 LV.isFz && List.length r19.1 == 1)) (when (TV.isF (List.getD r19.1 0 TV.em)) (when (FV.isBool (TV.toF (List.getD r19.1 0 TV.em))) (jump w (J_law23_MeterRises_2_1 R k w n x2 x7 x11 (FV.toInt (TV.toF (List.getD r14.1 0 TV.em))) (FV.toInt (TV.toF (List.getD r15.1 0 TV.em))) (FV.toInt (TV.toF (List.getD r16.1 0 TV.em))) h4096_0 h4096_1 h4096_2 (LV.toFz (List.getD r19.2 0 LV.nils))))))))))))))))))))))
  (some ((.exit 0), X_law23_MeterRises_1_0)) := by kernel_rfl
theorem J_law23_MeterRises_2_0_eq (R : Orc) (k : Nat) (w : Bool) (n : Nat) (x2 : List FV) (x7 : FV) (x11 : Int) (x12 : Int) (x13 : Int) (x14 : Int) (h4096_0 : Int) (h4096_1 : Int) (h4096_2 : Bool) : J_law23_MeterRises_2_0 R k w n x2 x7 x11 x12 x13 x14 h4096_0 h4096_1 h4096_2 = onR (R N_meter_Meter_Label [.fz .nilp]) fun r20 => when (List.isEmpty r20.2 && allF [.fz] r20.1) (when (FV.isInt .i64 (TV.toF (List.getD r20.1 0 TV.em))) (onR (R N_level_Lattice_Leq [.fz x7, .fz (FV.int .i64 x12), .fz (FV.int .i64 (FV.toInt (TV.toF (List.getD r20.1 0 TV.em))))]) fun r21 => when (List.isEmpty r21.2 && allF [.fz] r21.1) (when (FV.isBool (TV.toF (List.getD r21.1 0 TV.em))) (ifB (!(FV.toBool (TV.toF (List.getD r21.1 0 TV.em))))
  (some (.ret, X_law23_MeterRises_1_1 false))
  (onR (R N_meter_Meter_Left [.fz .nilp]) fun r22 => when (List.isEmpty r22.2 && allF [.fz] r22.1) (when (FV.isInt .i64 (TV.toF (List.getD r22.1 0 TV.em))) (ifB (decide ((FV.toInt (TV.toF (List.getD r22.1 0 TV.em))) > x13))
   (some (.ret, X_law23_MeterRises_1_1 false))
   (onR (R N_meter_Meter_Left [.fz .nilp]) fun r23 => when (List.isEmpty r23.2 && allF [.fz] r23.1) (when (FV.isInt .i64 (TV.toF (List.getD r23.1 0 TV.em))) (ifB (decide ((FV.toInt (TV.toF (List.getD r23.1 0 TV.em))) < 0))
    (some (.ret, X_law23_MeterRises_1_1 false))
    (ifB (x14 != 0)
     (onR (R N_meter_Meter_End [.fz .nilp]) fun r24 => when (List.isEmpty r24.2 && allF [.fz] r24.1) (when (FV.isInt .i64 (TV.toF (List.getD r24.1 0 TV.em))) (ifB ((FV.toInt (TV.toF (List.getD r24.1 0 TV.em))) != x14)
      (some (.ret, X_law23_MeterRises_1_1 false))
      (onR (R N_meter_Meter_Label [.fz .nilp]) fun r25 => when (List.isEmpty r25.2 && allF [.fz] r25.1) (when (FV.isInt .i64 (TV.toF (List.getD r25.1 0 TV.em))) (ifB ((FV.toInt (TV.toF (List.getD r25.1 0 TV.em))) != x12)
       (some (.ret, X_law23_MeterRises_1_1 false))
       (onR (R N_meter_Meter_Left [.fz .nilp]) fun r26 => when (List.isEmpty r26.2 && allF [.fz] r26.1) (when (FV.isInt .i64 (TV.toF (List.getD r26.1 0 TV.em))) (ifB ((FV.toInt (TV.toF (List.getD r26.1 0 TV.em))) != x13)
        (some (.ret, X_law23_MeterRises_1_1 false))
        (jump w (J_law23_MeterRises_1_0 R k w n x2 x7 x11 h4096_0 h4096_1 h4096_2)))))))))))
     (jump w (J_law23_MeterRises_1_0 R k w n x2 x7 x11 h4096_0 h4096_1 h4096_2))))))))))))) := by kernel_rfl
theorem X_law23_MeterRises_1_0_eq (R : Orc) (k : Nat) (w : Bool) : K_law23_MeterRises_1 R k w (.exit 0) (X_law23_MeterRises_1_0) = onR (R N_law23_lives []) fun r27 => when (List.isEmpty r27.2 && allF [.fz] r27.1) (when (FV.isBool (TV.toF (List.getD r27.1 0 TV.em))) (some ([.fz (FV.bool (FV.toBool (TV.toF (List.getD r27.1 0 TV.em))))], []))) := by kernel_rfl
theorem J_law23_MeterRises_2_1_eq (R : Orc) (k : Nat) (w : Bool) (n : Nat) (x2 : List FV) (x7 : FV) (x11 : Int) (x12 : Int) (x13 : Int) (x14 : Int) (h4096_0 : Int) (h4096_1 : Int) (h4096_2 : Bool) (h4097 : FV) : J_law23_MeterRises_2_1 R k w n x2 x7 x11 x12 x13 x14 h4096_0 h4096_1 h4096_2 h4097 = onR (R N_meter_Meter_Label [.pv 8 true (.fz h4097)]) fun r28 => when (List.length r28.2 == 1 && (List.all r28.2 LV.isFz && List.length r28.1 == 1)) (when (TV.isF (List.getD r28.1 0 TV.em)) (when (FV.isInt .i64 (TV.toF (List.getD r28.1 0 TV.em))) (onR (R N_level_Lattice_Leq [.fz x7, .fz (FV.int .i64 x12), .fz (FV.int .i64 (FV.toInt (TV.toF (List.getD r28.1 0 TV.em))))]) fun r29 => when (List.isEmpty r29.2 && allF [.fz] r29.1) (when (FV.isBool (TV.toF (List.getD r29.1 0 TV.em))) (ifB (!(FV.toBool (TV.toF (List.getD r29.1 0 TV.em))))
  (some (.ret, X_law23_MeterRises_1_1 false))
  (onR (R N_meter_Meter_Left [.pv 8 true (.fz (LV.toFz (List.getD r28.2 0 LV.nils)))]) fun r30 => when (List.length r30.2 == 1 && (List.all r30.2 LV.isFz && List.length r30.1 == 1)) (when (TV.isF (List.getD r30.1 0 TV.em)) (when (FV.isInt .i64 (TV.toF (List.getD r30.1 0 TV.em))) (ifB (decide ((FV.toInt (TV.toF (List.getD r30.1 0 TV.em))) > x13))
   (some (.ret, X_law23_MeterRises_1_1 false))
   (onR (R N_meter_Meter_Left [.pv 8 true (.fz (LV.toFz (List.getD r30.2 0 LV.nils)))]) fun r31 => when (List.length r31.2 == 1 && (List.all r31.2 LV.isFz && List.length r31.1 == 1)) (when (TV.isF (List.getD r31.1 0 TV.em)) (when (FV.isInt .i64 (TV.toF (List.getD r31.1 0 TV.em))) (ifB (decide ((FV.toInt (TV.toF (List.getD r31.1 0 TV.em))) < 0))
    (some (.ret, X_law23_MeterRises_1_1 false))
    (ifB (x14 != 0)
     (onR (R N_meter_Meter_End [.pv 8 true (.fz (LV.toFz (List.getD r31.2 0 LV.nils)))]) fun r32 => when (List.length r32.2 == 1 && (List.all r32.2 LV.isFz && List.length r32.1 == 1)) (when (TV.isF (List.getD r32.1 0 TV.em)) (when (FV.isInt .i64 (TV.toF (List.getD r32.1 0 TV.em))) (ifB ((FV.toInt (TV.toF (List.getD r32.1 0 TV.em))) != x14)
      (some (.ret, X_law23_MeterRises_1_1 false))
      (onR (R N_meter_Meter_Label [.pv 8 true (.fz (LV.toFz (List.getD r32.2 0 LV.nils)))]) fun r33 => when (List.length r33.2 == 1 && (List.all r33.2 LV.isFz && List.length r33.1 == 1)) (when (TV.isF (List.getD r33.1 0 TV.em)) (when (FV.isInt .i64 (TV.toF (List.getD r33.1 0 TV.em))) (ifB ((FV.toInt (TV.toF (List.getD r33.1 0 TV.em))) != x12)
       (some (.ret, X_law23_MeterRises_1_1 false))
       (onR (R N_meter_Meter_Left [.pv 8 true (.fz (LV.toFz (List.getD r33.2 0 LV.nils)))]) fun r34 => when (List.length r34.2 == 1 && (List.all r34.2 LV.isFz && List.length r34.1 == 1)) (when (TV.isF (List.getD r34.1 0 TV.em)) (when (FV.isInt .i64 (TV.toF (List.getD r34.1 0 TV.em))) (ifB ((FV.toInt (TV.toF (List.getD r34.1 0 TV.em))) != x13)
        (some (.ret, X_law23_MeterRises_1_1 false))
        (jump w (J_law23_MeterRises_1_1 R k w n x2 x7 x11 h4096_0 h4096_1 h4096_2 (LV.toFz (List.getD r34.2 0 LV.nils))))))))))))))))
     (jump w (J_law23_MeterRises_1_1 R k w n x2 x7 x11 h4096_0 h4096_1 h4096_2 (LV.toFz (List.getD r31.2 0 LV.nils)))))))))))))))))) := by kernel_rfl
theorem X_law23_MeterRises_1_1_eq (R : Orc) (k : Nat) (w : Bool) (x6 : Bool) : K_law23_MeterRises_1 R k w .ret (X_law23_MeterRises_1_1 x6) = some ([.fz (FV.bool x6)], []) := by kernel_rfl
theorem J_law23_MeterRises_1_0_eq (R : Orc) (k : Nat) (w : Bool) (n : Nat) (x2 : List FV) (x7 : FV) (x11 : Int) (h4096_0 : Int) (h4096_1 : Int) (h4096_2 : Bool) : J_law23_MeterRises_1_0 R k w n x2 x7 x11 h4096_0 h4096_1 h4096_2 = ifB (!h4096_2)
  (onR (R N_meter_Meter_End [.fz .nilp]) fun r35 => when (List.isEmpty r35.2 && allF [.fz] r35.1) (when (FV.isInt .i64 (TV.toF (List.getD r35.1 0 TV.em))) (ifB ((FV.toInt (TV.toF (List.getD r35.1 0 TV.em))) == 2)
   (some (.ret, X_law23_MeterRises_1_1 false))
   (ifB h4096_2
    (onR (R N_meter_Meter_End [.fz .nilp]) fun r36 => when (List.isEmpty r36.2 && allF [.fz] r36.1) (when (FV.isInt .i64 (TV.toF (List.getD r36.1 0 TV.em))) (ifB ((FV.toInt (TV.toF (List.getD r36.1 0 TV.em))) == 0)
     (onR (R N_meter_Meter_Label [.fz .nilp]) fun r37 => when (List.isEmpty r37.2 && allF [.fz] r37.1) (when (FV.isInt .i64 (TV.toF (List.getD r37.1 0 TV.em))) (onR (R N_level_Lattice_Leq [.fz x7, .fz (FV.int .i64 (FV.toInt (TV.toF (List.getD r37.1 0 TV.em)))), .fz (FV.int .i64 h4096_1)]) fun r38 => when (List.isEmpty r38.2 && allF [.fz] r38.1) (when (FV.isBool (TV.toF (List.getD r38.1 0 TV.em))) (ifB (!(FV.toBool (TV.toF (List.getD r38.1 0 TV.em))))
      (ifB (decide (x11 > 0))
       (when ((decide (0 ≤ x11)) && (decide (x11 < (List.length x2 : Int)))) (when (FV.fits 3 true (List.getD x2 (Int.toNat x11) FV.nilp)) (when (FV.isAg 3 (List.getD x2 (Int.toNat x11) FV.nilp)) (when (FV.isInt .i64 (FV.cell (List.getD x2 (Int.toNat x11) FV.nilp) 0)) (ifB ((FV.toInt (FV.cell (List.getD x2 (Int.toNat x11) FV.nilp) 0)) == 1)
        (some (.ret, X_law23_MeterRises_1_1 false))
        (L_law23_MeterRises_1_0 R k w n x2 x7 (IntKind.wrap .i64 (x11 + 1)) h4096_0 h4096_1 h4096_2))))))
       (L_law23_MeterRises_1_0 R k w n x2 x7 (IntKind.wrap .i64 (x11 + 1)) h4096_0 h4096_1 h4096_2))
      (L_law23_MeterRises_1_0 R k w n x2 x7 (IntKind.wrap .i64 (x11 + 1)) h4096_0 h4096_1 h4096_2))))))
     (L_law23_MeterRises_1_0 R k w n x2 x7 (IntKind.wrap .i64 (x11 + 1)) h4096_0 h4096_1 h4096_2))))
    (L_law23_MeterRises_1_0 R k w n x2 x7 (IntKind.wrap .i64 (x11 + 1)) h4096_0 h4096_1 h4096_2)))))
  (ifB h4096_2
   (onR (R N_meter_Meter_End [.fz .nilp]) fun r39 => when (List.isEmpty r39.2 && allF [.fz] r39.1) (when (FV.isInt .i64 (TV.toF (List.getD r39.1 0 TV.em))) (ifB ((FV.toInt (TV.toF (List.getD r39.1 0 TV.em))) == 0)
    (onR (R N_meter_Meter_Label [.fz .nilp]) fun r40 => when (List.isEmpty r40.2 && allF [.fz] r40.1) (when (FV.isInt .i64 (TV.toF (List.getD r40.1 0 TV.em))) (onR (R N_level_Lattice_Leq [.fz x7, .fz (FV.int .i64 (FV.toInt (TV.toF (List.getD r40.1 0 TV.em)))), .fz (FV.int .i64 h4096_1)]) fun r41 => when (List.isEmpty r41.2 && allF [.fz] r41.1) (when (FV.isBool (TV.toF (List.getD r41.1 0 TV.em))) (ifB (!(FV.toBool (TV.toF (List.getD r41.1 0 TV.em))))
     (ifB (decide (x11 > 0))
      (when ((decide (0 ≤ x11)) && (decide (x11 < (List.length x2 : Int)))) (when (FV.fits 3 true (List.getD x2 (Int.toNat x11) FV.nilp)) (when (FV.isAg 3 (List.getD x2 (Int.toNat x11) FV.nilp)) (when (FV.isInt .i64 (FV.cell (List.getD x2 (Int.toNat x11) FV.nilp) 0)) (ifB ((FV.toInt (FV.cell (List.getD x2 (Int.toNat x11) FV.nilp) 0)) == 1)
       (some (.ret, X_law23_MeterRises_1_1 false))
       (L_law23_MeterRises_1_0 R k w n x2 x7 (IntKind.wrap .i64 (x11 + 1)) h4096_0 h4096_1 h4096_2))))))
      (L_law23_MeterRises_1_0 R k w n x2 x7 (IntKind.wrap .i64 (x11 + 1)) h4096_0 h4096_1 h4096_2))
     (L_law23_MeterRises_1_0 R k w n x2 x7 (IntKind.wrap .i64 (x11 + 1)) h4096_0 h4096_1 h4096_2))))))
    (L_law23_MeterRises_1_0 R k w n x2 x7 (IntKind.wrap .i64 (x11 + 1)) h4096_0 h4096_1 h4096_2))))
   (L_law23_MeterRises_1_0 R k w n x2 x7 (IntKind.wrap .i64 (x11 + 1)) h4096_0 h4096_1 h4096_2)) := by kernel_rfl
theorem J_law23_MeterRises_1_1_eq (R : Orc) (k : Nat) (w : Bool) (n : Nat) (x2 : List FV) (x7 : FV) (x11 : Int) (h4096_0 : Int) (h4096_1 : Int) (h4096_2 : Bool) (h4097 : FV) : J_law23_MeterRises_1_1 R k w n x2 x7 x11 h4096_0 h4096_1 h4096_2 h4097 = ifB (!h4096_2)
  (onR (R N_meter_Meter_End [.pv 8 true (.fz h4097)]) fun r42 => when (List.length r42.2 == 1 && (List.all r42.2 LV.isFz && List.length r42.1 == 1)) (when (TV.isF (List.getD r42.1 0 TV.em)) (when (FV.isInt .i64 (TV.toF (List.getD r42.1 0 TV.em))) (ifB ((FV.toInt (TV.toF (List.getD r42.1 0 TV.em))) == 2)
   (some (.ret, X_law23_MeterRises_1_1 false))
   (ifB h4096_2
    (onR (R N_meter_Meter_End [.pv 8 true (.fz (LV.toFz (List.getD r42.2 0 LV.nils)))]) fun r43 => when (List.length r43.2 == 1 && (List.all r43.2 LV.isFz && List.length r43.1 == 1)) (when (TV.isF (List.getD r43.1 0 TV.em)) (when (FV.isInt .i64 (TV.toF (List.getD r43.1 0 TV.em))) (ifB ((FV.toInt (TV.toF (List.getD r43.1 0 TV.em))) == 0)
     (onR (R N_meter_Meter_Label [.pv 8 true (.fz (LV.toFz (List.getD r43.2 0 LV.nils)))]) fun r44 => when (List.length r44.2 == 1 && (List.all r44.2 LV.isFz && List.length r44.1 == 1)) (when (TV.isF (List.getD r44.1 0 TV.em)) (when (FV.isInt .i64 (TV.toF (List.getD r44.1 0 TV.em))) (onR (R N_level_Lattice_Leq [.fz x7, .fz (FV.int .i64 (FV.toInt (TV.toF (List.getD r44.1 0 TV.em)))), .fz (FV.int .i64 h4096_1)]) fun r45 => when (List.isEmpty r45.2 && allF [.fz] r45.1) (when (FV.isBool (TV.toF (List.getD r45.1 0 TV.em))) (ifB (!(FV.toBool (TV.toF (List.getD r45.1 0 TV.em))))
      (ifB (decide (x11 > 0))
       (when ((decide (0 ≤ x11)) && (decide (x11 < (List.length x2 : Int)))) (when (FV.fits 3 true (List.getD x2 (Int.toNat x11) FV.nilp)) (when (FV.isAg 3 (List.getD x2 (Int.toNat x11) FV.nilp)) (when (FV.isInt .i64 (FV.cell (List.getD x2 (Int.toNat x11) FV.nilp) 0)) (ifB ((FV.toInt (FV.cell (List.getD x2 (Int.toNat x11) FV.nilp) 0)) == 1)
        (some (.ret, X_law23_MeterRises_1_1 false))
        (L_law23_MeterRises_1_1 R k w n x2 x7 (IntKind.wrap .i64 (x11 + 1)) h4096_0 h4096_1 h4096_2 (LV.toFz (List.getD r44.2 0 LV.nils))))))))
       (L_law23_MeterRises_1_1 R k w n x2 x7 (IntKind.wrap .i64 (x11 + 1)) h4096_0 h4096_1 h4096_2 (LV.toFz (List.getD r44.2 0 LV.nils))))
      (L_law23_MeterRises_1_1 R k w n x2 x7 (IntKind.wrap .i64 (x11 + 1)) h4096_0 h4096_1 h4096_2 (LV.toFz (List.getD r44.2 0 LV.nils)))))))))
     (L_law23_MeterRises_1_1 R k w n x2 x7 (IntKind.wrap .i64 (x11 + 1)) h4096_0 h4096_1 h4096_2 (LV.toFz (List.getD r43.2 0 LV.nils)))))))
    (L_law23_MeterRises_1_1 R k w n x2 x7 (IntKind.wrap .i64 (x11 + 1)) h4096_0 h4096_1 h4096_2 (LV.toFz (List.getD r42.2 0 LV.nils))))))))
  (ifB h4096_2
   (onR (R N_meter_Meter_End [.pv 8 true (.fz h4097)]) fun r46 => when (List.length r46.2 == 1 && (List.all r46.2 LV.isFz && List.length r46.1 == 1)) (when (TV.isF (List.getD r46.1 0 TV.em)) (when (FV.isInt .i64 (TV.toF (List.getD r46.1 0 TV.em))) (ifB ((FV.toInt (TV.toF (List.getD r46.1 0 TV.em))) == 0)
    (onR (R N_meter_Meter_Label [.pv 8 true (.fz (LV.toFz (List.getD r46.2 0 LV.nils)))]) fun r47 => when (List.length r47.2 == 1 && (List.all r47.2 LV.isFz && List.length r47.1 == 1)) (when (TV.isF (List.getD r47.1 0 TV.em)) (when (FV.isInt .i64 (TV.toF (List.getD r47.1 0 TV.em))) (onR (R N_level_Lattice_Leq [.fz x7, .fz (FV.int .i64 (FV.toInt (TV.toF (List.getD r47.1 0 TV.em)))), .fz (FV.int .i64 h4096_1)]) fun r48 => when (List.isEmpty r48.2 && allF [.fz] r48.1) (when (FV.isBool (TV.toF (List.getD r48.1 0 TV.em))) (ifB (!(FV.toBool (TV.toF (List.getD r48.1 0 TV.em))))
     (ifB (decide (x11 > 0))
      (when ((decide (0 ≤ x11)) && (decide (x11 < (List.length x2 : Int)))) (when (FV.fits 3 true (List.getD x2 (Int.toNat x11) FV.nilp)) (when (FV.isAg 3 (List.getD x2 (Int.toNat x11) FV.nilp)) (when (FV.isInt .i64 (FV.cell (List.getD x2 (Int.toNat x11) FV.nilp) 0)) (ifB ((FV.toInt (FV.cell (List.getD x2 (Int.toNat x11) FV.nilp) 0)) == 1)
       (some (.ret, X_law23_MeterRises_1_1 false))
       (L_law23_MeterRises_1_1 R k w n x2 x7 (IntKind.wrap .i64 (x11 + 1)) h4096_0 h4096_1 h4096_2 (LV.toFz (List.getD r47.2 0 LV.nils))))))))
      (L_law23_MeterRises_1_1 R k w n x2 x7 (IntKind.wrap .i64 (x11 + 1)) h4096_0 h4096_1 h4096_2 (LV.toFz (List.getD r47.2 0 LV.nils))))
     (L_law23_MeterRises_1_1 R k w n x2 x7 (IntKind.wrap .i64 (x11 + 1)) h4096_0 h4096_1 h4096_2 (LV.toFz (List.getD r47.2 0 LV.nils)))))))))
    (L_law23_MeterRises_1_1 R k w n x2 x7 (IntKind.wrap .i64 (x11 + 1)) h4096_0 h4096_1 h4096_2 (LV.toFz (List.getD r46.2 0 LV.nils)))))))
   (L_law23_MeterRises_1_1 R k w n x2 x7 (IntKind.wrap .i64 (x11 + 1)) h4096_0 h4096_1 h4096_2 h4097)) := by kernel_rfl
/-! keyhole/keyholelaw23.of -/
def A_law23_of : AFunc := ⟨1, [(.tmp 2, .fz), (.tmp 3, .fz)], .seq (.region [⟨(some 2), .mov (.c (.fz (.nilp))), none, none⟩,
  ⟨(some 3), .mov (.c (.nils)), none, none⟩])
 (.seq (.region [⟨(some 7), .mov (.t 0), none, some (.int .i64)⟩,
   ⟨(some 8), .call N_ref01_Sort [((.t 7), .fz)] [.fz], none, none⟩,
   ⟨(some 4), .alloc 3 true (.ag [.nils, .nils, .nils]), none, none⟩,
   ⟨none, .store 3 true (.t 4) (.t 8), none, none⟩])
  (.seq (.region [⟨(some 10), .load 3 true (.t 4), none, none⟩,
    ⟨(some 11), .call N_level_New [((.t 10), .fz)] [.fz, .fz], none, none⟩,
    ⟨(some 9), .mov (.t 11), none, none⟩,
    ⟨(some 12), .extract (.t 9) 0, none, none⟩,
    ⟨(some 13), .extract (.t 9) 1, none, some (.int .i64)⟩,
    ⟨(some 5), .mov (.t 12), none, none⟩,
    ⟨(some 6), .mov (.t 13), none, some (.int .i64)⟩])
   (.seq (.region [⟨(some 14), .mov (.t 5), none, none⟩,
     ⟨(some 15), .load 3 true (.t 4), none, none⟩,
     ⟨(some 16), .call N_ref01_Table [((.t 15), .fz)] [.fz], none, none⟩,
     ⟨(some 2), .mov (.t 14), none, none⟩,
     ⟨(some 3), .mov (.t 16), none, none⟩])
    (.ret))))⟩
theorem E_law23_of (R : Orc) (k : Nat) (w : Bool) (a0 : Int) : callL R k w A_law23_of [.fz (FV.int .i64 a0)] = onR (R N_ref01_Sort [.fz (FV.int .i64 a0)]) fun r0 => when (List.isEmpty r0.2 && allF [.fz] r0.1) (when (FV.fits 3 true (TV.toF (List.getD r0.1 0 TV.em))) (onR (R N_level_New [.fz (TV.toF (List.getD r0.1 0 TV.em))]) fun r1 => when (List.isEmpty r1.2 && allF [.fz, .fz] r1.1) (when (FV.isInt .i64 (TV.toF (List.getD r1.1 1 TV.em))) (onR (R N_ref01_Table [.fz (TV.toF (List.getD r0.1 0 TV.em))]) fun r2 => when (List.isEmpty r2.2 && allF [.fz] r2.1) (some ([.fz (TV.toF (List.getD r1.1 0 TV.em)), .fz (TV.toF (List.getD r2.1 0 TV.em))], [])))))) := by kernel_rfl
/-! keyhole/keyholelaw23.lives -/
def A_law23_lives : AFunc := ⟨0, [(.tmp 0, .fz)], .seq (.region [⟨(some 0), .mov (.c (.fz (.bool false))), none, some .bool⟩])
 (.seq (.region [⟨(some 6), .call N_ref01_Sort [((.c (.fz (.int .i64 0))), .fz)] [.fz], none, none⟩,
   ⟨(some 7), .call N_level_New [((.t 6), .fz)] [.fz, .fz], none, none⟩,
   ⟨(some 5), .mov (.t 7), none, none⟩,
   ⟨(some 8), .extract (.t 5) 0, none, none⟩,
   ⟨(some 9), .extract (.t 5) 1, none, some (.int .i64)⟩,
   ⟨(some 1), .mov (.t 8), none, none⟩,
   ⟨(some 2), .mov (.t 9), none, some (.int .i64)⟩])
  (.seq (.region [⟨(some 11), .mov (.t 1), none, none⟩,
    ⟨(some 12), .build 3 [.fz (.int .i64 0), .fz (.int .i64 0), .fz (.bool false)] [(0, 1, false, (.c (.fz (.int .i64 3))))], none, none⟩,
    ⟨(some 13), .call N_meter_New [((.t 11), .fz), ((.t 12), .fz)] [.pv 8 true, .fz], none, none⟩,
    ⟨(some 10), .mov (.t 13), none, none⟩,
    ⟨(some 14), .extract (.t 10) 0, none, none⟩,
    ⟨(some 15), .extract (.t 10) 1, none, some (.int .i64)⟩,
    ⟨(some 3), .mov (.t 14), none, none⟩,
    ⟨(some 4), .mov (.t 15), none, some (.int .i64)⟩])
   (.seq (.region [⟨(some 16), .mov (.t 4), none, some (.int .i64)⟩,
     ⟨(some 17), .binI .eql .i64 (.t 16) (.c (.fz (.int .i64 0))), none, some .bool⟩,
     ⟨(some 18), .mov (.t 17), none, some .bool⟩,
     ⟨(some 19), .mov (.t 3), (some (18, true)), none⟩,
     ⟨(some 20), .call N_meter_Meter_Spend [((.t 19), .pv 8 true), ((.c (.fz (.int .i64 2))), .fz)] [.fz], (some (18, true)), some .bool⟩,
     ⟨(some 21), .pick (.t 18) (.t 20) (.c (.fz (.bool false))), none, some .bool⟩,
     ⟨(some 22), .mov (.t 21), none, some .bool⟩,
     ⟨(some 23), .mov (.t 3), (some (22, true)), none⟩,
     ⟨(some 24), .call N_meter_Meter_Spend [((.t 23), .pv 8 true), ((.c (.fz (.int .i64 2))), .fz)] [.fz], (some (22, true)), some .bool⟩,
     ⟨(some 25), .notB (.t 24), (some (22, true)), some .bool⟩,
     ⟨(some 26), .pick (.t 22) (.t 25) (.c (.fz (.bool false))), none, some .bool⟩,
     ⟨(some 27), .mov (.t 26), none, some .bool⟩,
     ⟨(some 28), .mov (.t 3), (some (27, true)), none⟩,
     ⟨(some 29), .call N_meter_Meter_End [((.t 28), .pv 8 true)] [.fz], (some (27, true)), some (.int .i64)⟩,
     ⟨(some 30), .binI .eql .i64 (.t 29) (.c (.fz (.int .i64 1))), (some (27, true)), some .bool⟩,
     ⟨(some 31), .pick (.t 27) (.t 30) (.c (.fz (.bool false))), none, some .bool⟩,
     ⟨(some 32), .mov (.t 31), none, some .bool⟩,
     ⟨(some 33), .mov (.t 3), (some (32, true)), none⟩,
     ⟨(some 34), .call N_meter_Meter_Left [((.t 33), .pv 8 true)] [.fz], (some (32, true)), some (.int .i64)⟩,
     ⟨(some 35), .binI .eql .i64 (.t 34) (.c (.fz (.int .i64 1))), (some (32, true)), some .bool⟩,
     ⟨(some 36), .pick (.t 32) (.t 35) (.c (.fz (.bool false))), none, some .bool⟩,
     ⟨(some 0), .mov (.t 36), none, some .bool⟩])
    (.ret))))⟩
theorem E_law23_lives (R : Orc) (k : Nat) (w : Bool) : callL R k w A_law23_lives [] = onR (R N_ref01_Sort [.fz (FV.int .i64 0)]) fun r0 => when (List.isEmpty r0.2 && allF [.fz] r0.1) (onR (R N_level_New [.fz (TV.toF (List.getD r0.1 0 TV.em))]) fun r1 => when (List.isEmpty r1.2 && allF [.fz, .fz] r1.1) (when (FV.isInt .i64 (TV.toF (List.getD r1.1 1 TV.em))) (onR (R N_meter_New [.fz (TV.toF (List.getD r1.1 0 TV.em)), .fz (FV.ag [(FV.int .i64 3), (FV.int .i64 0), (FV.bool false)])]) fun r2 => when (List.length r2.2 == 0 && (List.all r2.2 LV.isFz && List.length r2.1 == 2)) (ifB (TV.isF (List.getD r2.1 0 TV.em))
  (when (FV.isNil (TV.toF (List.getD r2.1 0 TV.em))) (when (TV.isF (List.getD r2.1 1 TV.em)) (when (FV.isInt .i64 (TV.toF (List.getD r2.1 1 TV.em))) (ifB ((FV.toInt (TV.toF (List.getD r2.1 1 TV.em))) == 0)
   (onR (R N_meter_Meter_Spend [.fz .nilp, .fz (FV.int .i64 2)]) fun r3 => when (List.isEmpty r3.2 && allF [.fz] r3.1) (when (FV.isBool (TV.toF (List.getD r3.1 0 TV.em))) (ifB (FV.toBool (TV.toF (List.getD r3.1 0 TV.em)))
    (onR (R N_meter_Meter_Spend [.fz .nilp, .fz (FV.int .i64 2)]) fun r4 => when (List.isEmpty r4.2 && allF [.fz] r4.1) (when (FV.isBool (TV.toF (List.getD r4.1 0 TV.em))) (ifB (!(FV.toBool (TV.toF (List.getD r4.1 0 TV.em))))
     (onR (R N_meter_Meter_End [.fz .nilp]) fun r5 => when (List.isEmpty r5.2 && allF [.fz] r5.1) (when (FV.isInt .i64 (TV.toF (List.getD r5.1 0 TV.em))) (ifB ((FV.toInt (TV.toF (List.getD r5.1 0 TV.em))) == 1)
      (onR (R N_meter_Meter_Left [.fz .nilp]) fun r6 => when (List.isEmpty r6.2 && allF [.fz] r6.1) (when (FV.isInt .i64 (TV.toF (List.getD r6.1 0 TV.em))) (some ([.fz (FV.bool ((FV.toInt (TV.toF (List.getD r6.1 0 TV.em))) == 1))], []))))
      (some ([.fz (FV.bool false)], [])))))
     (some ([.fz (FV.bool false)], [])))))
    (some ([.fz (FV.bool false)], [])))))
   (some ([.fz (FV.bool false)], []))))))
  (when (TV.isPv 8 true (List.getD r2.1 0 TV.em)) (when (TV.isF (List.getD r2.1 1 TV.em)) (when (FV.isInt .i64 (TV.toF (List.getD r2.1 1 TV.em))) (ifB ((FV.toInt (TV.toF (List.getD r2.1 1 TV.em))) == 0)
   (onR (R N_meter_Meter_Spend [.pv 8 true (.fz (TV.toV (List.getD r2.1 0 TV.em))), .fz (FV.int .i64 2)]) fun r7 => when (List.length r7.2 == 1 && (List.all r7.2 LV.isFz && List.length r7.1 == 1)) (when (TV.isF (List.getD r7.1 0 TV.em)) (when (FV.isBool (TV.toF (List.getD r7.1 0 TV.em))) (ifB (FV.toBool (TV.toF (List.getD r7.1 0 TV.em)))
    (onR (R N_meter_Meter_Spend [.pv 8 true (.fz (LV.toFz (List.getD r7.2 0 LV.nils))), .fz (FV.int .i64 2)]) fun r8 => when (List.length r8.2 == 1 && (List.all r8.2 LV.isFz && List.length r8.1 == 1)) (when (TV.isF (List.getD r8.1 0 TV.em)) (when (FV.isBool (TV.toF (List.getD r8.1 0 TV.em))) (ifB (!(FV.toBool (TV.toF (List.getD r8.1 0 TV.em))))
     (onR (R N_meter_Meter_End [.pv 8 true (.fz (LV.toFz (List.getD r8.2 0 LV.nils)))]) fun r9 => when (List.length r9.2 == 1 && (List.all r9.2 LV.isFz && List.length r9.1 == 1)) (when (TV.isF (List.getD r9.1 0 TV.em)) (when (FV.isInt .i64 (TV.toF (List.getD r9.1 0 TV.em))) (ifB ((FV.toInt (TV.toF (List.getD r9.1 0 TV.em))) == 1)
      (onR (R N_meter_Meter_Left [.pv 8 true (.fz (LV.toFz (List.getD r9.2 0 LV.nils)))]) fun r10 => when (List.length r10.2 == 1 && (List.all r10.2 LV.isFz && List.length r10.1 == 1)) (when (TV.isF (List.getD r10.1 0 TV.em)) (when (FV.isInt .i64 (TV.toF (List.getD r10.1 0 TV.em))) (some ([.fz (FV.bool ((FV.toInt (TV.toF (List.getD r10.1 0 TV.em))) == 1))], [])))))
      (some ([.fz (FV.bool false)], []))))))
     (some ([.fz (FV.bool false)], []))))))
    (some ([.fz (FV.bool false)], []))))))
   (some ([.fz (FV.bool false)], [])))))))))) := by kernel_rfl
/-! keyhole/meter.New -/
def A_meter_New_j1 : ACode := .cond (.t 9) (.seq (.region [⟨(some 4), .mov (.c (.fz (.nilp))), none, none⟩,
   ⟨(some 5), .mov (.c (.fz (.int .i64 2))), none, some (.int .i64)⟩])
  (.ret))
 (.seq (.region [⟨(some 19), .mov (.t 0), none, none⟩,
   ⟨(some 20), .fadr 1 (.t 3), none, none⟩,
   ⟨(some 21), .load 1 false (.t 20), none, some (.int .i64)⟩,
   ⟨(some 22), .call N_level_Lattice_Is [((.t 19), .fz), ((.t 21), .fz)] [.fz], none, some .bool⟩,
   ⟨(some 23), .notB (.t 22), none, some .bool⟩,
   ⟨(some 18), .mov (.t 23), none, some .bool⟩])
  (.cond (.t 18) (.seq (.region [⟨(some 4), .mov (.c (.fz (.nilp))), none, none⟩,
     ⟨(some 5), .mov (.c (.fz (.int .i64 11))), none, some (.int .i64)⟩])
    (.ret))
   (.skip)))
def A_meter_New_j2 : ACode := .seq (.draws [⟨⟨(some 24), .load 3 true (.t 3), none, none⟩, []⟩,
  ⟨⟨(some 25), .build 3 [.fz (.int .i64 0), .fz (.int .i64 0), .fz (.bool false)] [(0, 3, true, (.t 24))], none, none⟩, [0]⟩,
  ⟨⟨(some 26), .mov (.t 0), none, none⟩, []⟩,
  ⟨⟨(some 27), .mov (.t 0), none, none⟩, []⟩,
  ⟨⟨(some 28), .call N_level_Lattice_Bottom [((.t 27), .fz)] [.fz], none, some (.int .i64)⟩, [3]⟩,
  ⟨⟨(some 29), .build 8 [.fz (.int .i64 0), .fz (.int .i64 0), .fz (.bool false), .fz (.nilp), .fz (.int .i64 0), .fz (.int .i64 0), .fz (.int .i64 0), .fz (.int .i64 0)] [(0, 3, true, (.t 25)), (3, 1, false, (.t 26)), (5, 1, false, (.t 28))], none, none⟩, [1, 2, 4]⟩,
  ⟨⟨(some 30), .box 8 true (.t 29), none, none⟩, [5]⟩,
  ⟨⟨(some 4), .mov (.t 30), none, none⟩, [6, 4, 0, 1, 2, 3, 4, 5, 6]⟩,
  ⟨⟨(some 5), .mov (.c (.fz (.int .i64 0))), none, some (.int .i64)⟩, [7, 0, 1, 2, 3, 4, 5, 6, 7]⟩])
 (.ret)
def A_meter_New_s3 : ACode := .trim [0, 3] A_meter_New_j2
def A_meter_New : AFunc := ⟨2, [(.tmp 4, .pv 8 true), (.tmp 5, .fz)], .seq (.region [⟨(some 3), .box 3 true (.t 1), none, none⟩,
  ⟨(some 4), .mov (.c (.fz (.nilp))), none, none⟩,
  ⟨(some 5), .mov (.c (.fz (.int .i64 0))), none, some (.int .i64)⟩])
 (.seq (.block 0 (.seq (.region [⟨(some 7), .mov (.t 0), none, none⟩,
     ⟨(some 8), .eqNil false (.t 7), none, some .bool⟩,
     ⟨(some 6), .mov (.t 8), none, some .bool⟩])
    (.cond (.t 6) (.seq (.region [⟨(some 4), .mov (.c (.fz (.nilp))), none, none⟩,
       ⟨(some 5), .mov (.c (.fz (.int .i64 1))), none, some (.int .i64)⟩])
      (.ret))
     (.seq (.region [⟨(some 10), .fadr 0 (.t 3), none, none⟩,
       ⟨(some 11), .load 1 false (.t 10), none, some (.int .i64)⟩,
       ⟨(some 12), .binI .lss .i64 (.t 11) (.c (.fz (.int .i64 0))), none, some .bool⟩,
       ⟨(some 13), .mov (.t 12), none, some .bool⟩,
       ⟨(some 14), .fadr 0 (.t 3), (some (13, false)), none⟩,
       ⟨(some 15), .load 1 false (.t 14), (some (13, false)), some (.int .i64)⟩,
       ⟨(some 16), .binI .gtr .i64 (.t 15) (.c (.fz (.int .i64 20000))), (some (13, false)), some .bool⟩,
       ⟨(some 17), .pick (.t 13) (.c (.fz (.bool true))) (.t 16), none, some .bool⟩,
       ⟨(some 9), .mov (.t 17), none, some .bool⟩])
      (.trim [0, 3, 9] A_meter_New_j1)))))
  A_meter_New_s3)⟩
def J_meter_New_1_0 (R : Orc) (k : Nat) (w : Bool) (x0e : FV) (x9 : Bool) (h4096_0 : Int) (h4096_1 : Int) (h4096_2 : Bool) := execL R k w [] A_meter_New_j1 Ans ⟨[(0, .fz (FV.pt 195 true x0e 0)), (3, .ptr 4096 0 0), (9, .fz (FV.bool x9))], [(4095, .dead), (4096, .var 3 true (.fz (FV.ag [(FV.int .i64 h4096_0), (FV.int .i64 h4096_1), (FV.bool h4096_2)])))]⟩ (kBlk 0 (kSeq R k w [] A_meter_New_s3 (kFin R [(.tmp 4, .pv 8 true), (.tmp 5, .fz)] [])))
def J_meter_New_2_0 (R : Orc) (k : Nat) (w : Bool) (x0e : FV) (h4096_0 : Int) (h4096_1 : Int) (h4096_2 : Bool) := execL R k w [] A_meter_New_j2 Ans ⟨[(0, .fz (FV.pt 195 true x0e 0)), (3, .ptr 4096 0 0)], [(4095, .dead), (4096, .var 3 true (.fz (FV.ag [(FV.int .i64 h4096_0), (FV.int .i64 h4096_1), (FV.bool h4096_2)])))]⟩ (kFin R [(.tmp 4, .pv 8 true), (.tmp 5, .fz)] [])
theorem E_meter_New (R : Orc) (k : Nat) (w : Bool) (a0 : FV) (a1_0 : Int) (a1_1 : Int) (a1_2 : Bool) : callL R k w A_meter_New [.fz (FV.pt 195 true a0 0), .fz (FV.ag [(FV.int .i64 a1_0), (FV.int .i64 a1_1), (FV.bool a1_2)])] = ifB (decide (a1_0 < 0))
  (jump w (J_meter_New_1_0 R k w a0 true a1_0 a1_1 a1_2))
  (jump w (J_meter_New_1_0 R k w a0 (decide (a1_0 > 20000)) a1_0 a1_1 a1_2)) := by kernel_rfl
theorem J_meter_New_1_0_eq (R : Orc) (k : Nat) (w : Bool) (x0e : FV) (x9 : Bool) (h4096_0 : Int) (h4096_1 : Int) (h4096_2 : Bool) : J_meter_New_1_0 R k w x0e x9 h4096_0 h4096_1 h4096_2 = ifB x9
  (some ([.fz .nilp, .fz (FV.int .i64 2)], []))
  (onR (R N_level_Lattice_Is [.fz (FV.pt 195 true x0e 0), .fz (FV.int .i64 h4096_1)]) fun r0 => when (List.isEmpty r0.2 && allF [.fz] r0.1) (when (FV.isBool (TV.toF (List.getD r0.1 0 TV.em))) (ifB (!(FV.toBool (TV.toF (List.getD r0.1 0 TV.em))))
   (some ([.fz .nilp, .fz (FV.int .i64 11)], []))
   (jump w (J_meter_New_2_0 R k w x0e h4096_0 h4096_1 h4096_2))))) := by kernel_rfl
theorem J_meter_New_2_0_eq (R : Orc) (k : Nat) (w : Bool) (x0e : FV) (h4096_0 : Int) (h4096_1 : Int) (h4096_2 : Bool) : J_meter_New_2_0 R k w x0e h4096_0 h4096_1 h4096_2 = onR (R N_level_Lattice_Bottom [.fz (FV.pt 195 true x0e 0)]) fun r1 => when (List.isEmpty r1.2 && allF [.fz] r1.1) (when (FV.isInt .i64 (TV.toF (List.getD r1.1 0 TV.em))) (some ([.pv 8 true (.fz (FV.ag [(FV.int .i64 h4096_0), (FV.int .i64 h4096_1), (FV.bool h4096_2), (FV.pt 195 true x0e 0), (FV.int .i64 0), (FV.int .i64 (FV.toInt (TV.toF (List.getD r1.1 0 TV.em)))), (FV.int .i64 0), (FV.int .i64 0)])), .fz (FV.int .i64 0)], []))) := by kernel_rfl
theorem E_meter_New_v1 (R : Orc) (k : Nat) (w : Bool) (a1_0 : Int) (a1_1 : Int) (a1_2 : Bool) : callL R k w A_meter_New [.fz FV.nilp, .fz (FV.ag [(FV.int .i64 a1_0), (FV.int .i64 a1_1), (FV.bool a1_2)])] = some ([.fz .nilp, .fz (FV.int .i64 1)], []) := by kernel_rfl
/-! (*keyhole/meter.Meter).Spend -/
def A_meter_Meter_Spend_j1 : ACode := .seq (.region [⟨(some 28), .mov (.t 0), none, none⟩,
  ⟨(some 29), .nilck (.t 28), none, none⟩,
  ⟨(some 30), .fadr 4 (.t 29), none, none⟩,
  ⟨(some 31), .load 1 false (.t 30), none, some (.int .i64)⟩,
  ⟨(some 32), .mov (.t 1), none, some (.int .i64)⟩,
  ⟨(some 33), .binI .add .i64 (.t 31) (.t 32), none, some (.int .i64)⟩,
  ⟨(some 34), .nilck (.t 28), none, none⟩,
  ⟨(some 35), .fadr 4 (.t 34), none, none⟩,
  ⟨none, .store 1 false (.t 35) (.t 33), none, none⟩])
 (.seq (.region [⟨(some 4), .mov (.c (.fz (.bool true))), none, some .bool⟩])
  (.ret))
def A_meter_Meter_Spend : AFunc := ⟨2, [(.tmp 4, .fz)], .seq (.region [⟨(some 4), .mov (.c (.fz (.bool false))), none, some .bool⟩])
 (.seq (.block 0 (.seq (.region [⟨(some 6), .mov (.t 0), none, none⟩,
     ⟨(some 7), .call N_meter_Meter_done [((.t 6), .pv 8 true)] [.fz], none, some .bool⟩,
     ⟨(some 5), .mov (.t 7), none, some .bool⟩])
    (.cond (.t 5) (.seq (.region [⟨(some 4), .mov (.c (.fz (.bool false))), none, some .bool⟩])
      (.ret))
     (.seq (.draws [⟨⟨(some 9), .mov (.t 1), none, some (.int .i64)⟩, []⟩,
       ⟨⟨(some 10), .binI .lss .i64 (.t 9) (.c (.fz (.int .i64 0))), none, some .bool⟩, [0]⟩,
       ⟨⟨(some 11), .mov (.t 10), none, some .bool⟩, [1]⟩,
       ⟨⟨(some 12), .mov (.t 1), (some (11, false)), some (.int .i64)⟩, [2]⟩,
       ⟨⟨(some 13), .mov (.t 0), (some (11, false)), none⟩, [2]⟩,
       ⟨⟨(some 14), .nilck (.t 13), (some (11, false)), none⟩, [4, 2]⟩,
       ⟨⟨(some 15), .fadr 0 (.t 14), (some (11, false)), none⟩, [5, 2]⟩,
       ⟨⟨(some 16), .fadr 0 (.t 15), (some (11, false)), none⟩, [6, 2]⟩,
       ⟨⟨(some 17), .fadr 0 (.t 16), (some (11, false)), none⟩, [7, 2]⟩,
       ⟨⟨(some 18), .load 1 false (.t 17), (some (11, false)), some (.int .i64)⟩, [8, 2]⟩,
       ⟨⟨(some 19), .mov (.t 0), (some (11, false)), none⟩, [2]⟩,
       ⟨⟨(some 20), .nilck (.t 19), (some (11, false)), none⟩, [10, 2]⟩,
       ⟨⟨(some 21), .fadr 4 (.t 20), (some (11, false)), none⟩, [11, 2]⟩,
       ⟨⟨(some 22), .load 1 false (.t 21), (some (11, false)), some (.int .i64)⟩, [12, 2]⟩,
       ⟨⟨(some 23), .binI .sub .i64 (.t 18) (.t 22), (some (11, false)), some (.int .i64)⟩, [9, 13, 2]⟩,
       ⟨⟨(some 24), .binI .gtr .i64 (.t 12) (.t 23), (some (11, false)), some .bool⟩, [3, 14, 2]⟩,
       ⟨⟨(some 25), .pick (.t 11) (.c (.fz (.bool true))) (.t 24), none, some .bool⟩, [2, 15]⟩,
       ⟨⟨(some 8), .mov (.t 25), none, some .bool⟩, [16, 2]⟩])
      (.cond (.t 8) (.seq (.region [⟨(some 26), .mov (.t 0), none, none⟩,
         ⟨(some 27), .call N_meter_Meter_stop [((.t 26), .pv 8 true), ((.c (.fz (.int .i64 1))), .fz)] [.fz], none, some .bool⟩,
         ⟨(some 4), .mov (.t 27), none, some .bool⟩])
        (.ret))
       (.skip))))))
  (.trim [0, 1] A_meter_Meter_Spend_j1))⟩
def J_meter_Meter_Spend_1_0 (R : Orc) (k : Nat) (w : Bool) (x1 : Int) (h0 : FV) := execL R k w [0] A_meter_Meter_Spend_j1 Ans ⟨[(0, .ptr 0 0 0), (1, .fz (FV.int .i64 x1))], [(0, .var 8 true (.fz h0)), (4095, .dead)]⟩ (kFin R [(.tmp 4, .fz)] [0])
theorem E_meter_Meter_Spend (R : Orc) (k : Nat) (w : Bool) (a0_0_0_0 : Int) (a0_0_0_1 : Int) (a0_0_0_2 : Bool) (a0_1 : FV) (a0_2 : Int) (a0_3 : Int) (a0_4 : Int) (a0_5 : Int) (a1 : Int) : callL R k w A_meter_Meter_Spend [.pv 8 true (.fz (FV.ag [(FV.int .i64 a0_0_0_0), (FV.int .i64 a0_0_0_1), (FV.bool a0_0_0_2), (FV.pt 195 true a0_1 0), (FV.int .i64 a0_2), (FV.int .i64 a0_3), (FV.int .i64 a0_4), (FV.int .i64 a0_5)])), .fz (FV.int .i64 a1)] = onR (R N_meter_Meter_done [.pv 8 true (.fz (FV.ag [(FV.int .i64 a0_0_0_0), (FV.int .i64 a0_0_0_1), (FV.bool a0_0_0_2), (FV.pt 195 true a0_1 0), (FV.int .i64 a0_2), (FV.int .i64 a0_3), (FV.int .i64 a0_4), (FV.int .i64 a0_5)]))]) fun r0 => when (List.length r0.2 == 1 && (List.all r0.2 LV.isFz && List.length r0.1 == 1)) (when (TV.isF (List.getD r0.1 0 TV.em)) (when (FV.isBool (TV.toF (List.getD r0.1 0 TV.em))) (ifB (FV.toBool (TV.toF (List.getD r0.1 0 TV.em)))
  (some ([.fz (FV.bool false)], [.fz (LV.toFz (List.getD r0.2 0 LV.nils))]))
  (ifB (decide (a1 < 0))
   (onR (R N_meter_Meter_stop [.pv 8 true (.fz (LV.toFz (List.getD r0.2 0 LV.nils))), .fz (FV.int .i64 1)]) fun r1 => when (List.length r1.2 == 1 && (List.all r1.2 LV.isFz && List.length r1.1 == 1)) (when (TV.isF (List.getD r1.1 0 TV.em)) (when (FV.isBool (TV.toF (List.getD r1.1 0 TV.em))) (some ([.fz (FV.bool (FV.toBool (TV.toF (List.getD r1.1 0 TV.em))))], [.fz (LV.toFz (List.getD r1.2 0 LV.nils))])))))
   (when (FV.isAg 8 (LV.toFz (List.getD r0.2 0 LV.nils))) (when (FV.isInt .i64 (FV.cell (LV.toFz (List.getD r0.2 0 LV.nils)) 0)) (when (FV.isAg 8 (LV.toFz (List.getD r0.2 0 LV.nils))) (when (FV.isInt .i64 (FV.cell (LV.toFz (List.getD r0.2 0 LV.nils)) 4)) (ifB (decide (a1 > (IntKind.wrap .i64 ((FV.toInt (FV.cell (LV.toFz (List.getD r0.2 0 LV.nils)) 0)) - (FV.toInt (FV.cell (LV.toFz (List.getD r0.2 0 LV.nils)) 4))))))
    (onR (R N_meter_Meter_stop [.pv 8 true (.fz (LV.toFz (List.getD r0.2 0 LV.nils))), .fz (FV.int .i64 1)]) fun r2 => when (List.length r2.2 == 1 && (List.all r2.2 LV.isFz && List.length r2.1 == 1)) (when (TV.isF (List.getD r2.1 0 TV.em)) (when (FV.isBool (TV.toF (List.getD r2.1 0 TV.em))) (some ([.fz (FV.bool (FV.toBool (TV.toF (List.getD r2.1 0 TV.em))))], [.fz (LV.toFz (List.getD r2.2 0 LV.nils))])))))
    (jump w (J_meter_Meter_Spend_1_0 R k w a1 (LV.toFz (List.getD r0.2 0 LV.nils))))))))))))) := by kernel_rfl
theorem J_meter_Meter_Spend_1_0_eq (R : Orc) (k : Nat) (w : Bool) (x1 : Int) (h0 : FV) : J_meter_Meter_Spend_1_0 R k w x1 h0 = when (FV.isAg 8 h0) (when (FV.isInt .i64 (FV.cell h0 4)) (when ((FV.isAg 8 h0) && true) (some ([.fz (FV.bool true)], [.fz (FV.ag (List.set (FV.toAg h0) 4 (FV.int .i64 (IntKind.wrap .i64 ((FV.toInt (FV.cell h0 4)) + x1)))))])))) := by kernel_rfl
theorem E_meter_Meter_Spend_v1 (R : Orc) (k : Nat) (w : Bool) (a1 : Int) : callL R k w A_meter_Meter_Spend [.fz FV.nilp, .fz (FV.int .i64 a1)] = onR (R N_meter_Meter_done [.fz .nilp]) fun r3 => when (List.isEmpty r3.2 && allF [.fz] r3.1) (when (FV.isBool (TV.toF (List.getD r3.1 0 TV.em))) (ifB (FV.toBool (TV.toF (List.getD r3.1 0 TV.em)))
  (some ([.fz (FV.bool false)], []))
  (ifB (decide (a1 < 0))
   (onR (R N_meter_Meter_stop [.fz .nilp, .fz (FV.int .i64 1)]) fun r4 => when (List.isEmpty r4.2 && allF [.fz] r4.1) (when (FV.isBool (TV.toF (List.getD r4.1 0 TV.em))) (some ([.fz (FV.bool (FV.toBool (TV.toF (List.getD r4.1 0 TV.em))))], []))))
   (none)))) := by kernel_rfl
/-! (*keyhole/meter.Meter).Left -/
def A_meter_Meter_Left : AFunc := ⟨1, [(.tmp 2, .fz)], .seq (.region [⟨(some 2), .mov (.c (.fz (.int .i64 0))), none, some (.int .i64)⟩])
 (.seq (.seq (.region [⟨(some 3), .mov (.t 0), none, none⟩,
    ⟨(some 4), .eqNil false (.t 3), none, some .bool⟩])
   (.cond (.t 4) (.seq (.region [⟨(some 2), .mov (.c (.fz (.int .i64 0))), none, some (.int .i64)⟩])
     (.ret))
    (.skip)))
  (.seq (.draws [⟨⟨(some 5), .mov (.t 0), none, none⟩, []⟩,
    ⟨⟨(some 6), .nilck (.t 5), none, none⟩, [0]⟩,
    ⟨⟨(some 7), .fadr 0 (.t 6), none, none⟩, [1]⟩,
    ⟨⟨(some 8), .fadr 0 (.t 7), none, none⟩, [2]⟩,
    ⟨⟨(some 9), .fadr 0 (.t 8), none, none⟩, [3]⟩,
    ⟨⟨(some 10), .load 1 false (.t 9), none, some (.int .i64)⟩, [4]⟩,
    ⟨⟨(some 11), .mov (.t 0), none, none⟩, []⟩,
    ⟨⟨(some 12), .nilck (.t 11), none, none⟩, [6]⟩,
    ⟨⟨(some 13), .fadr 4 (.t 12), none, none⟩, [7]⟩,
    ⟨⟨(some 14), .load 1 false (.t 13), none, some (.int .i64)⟩, [8]⟩,
    ⟨⟨(some 15), .binI .sub .i64 (.t 10) (.t 14), none, some (.int .i64)⟩, [5, 9]⟩,
    ⟨⟨(some 2), .mov (.t 15), none, some (.int .i64)⟩, [10, 0, 1, 2, 3, 4, 5, 6, 7, 8, 9, 10]⟩])
   (.ret)))⟩
theorem E_meter_Meter_Left (R : Orc) (k : Nat) (w : Bool) (a0_0_0_0 : Int) (a0_0_0_1 : Int) (a0_0_0_2 : Bool) (a0_1 : FV) (a0_2 : Int) (a0_3 : Int) (a0_4 : Int) (a0_5 : Int) : callL R k w A_meter_Meter_Left [.pv 8 true (.fz (FV.ag [(FV.int .i64 a0_0_0_0), (FV.int .i64 a0_0_0_1), (FV.bool a0_0_0_2), (FV.pt 195 true a0_1 0), (FV.int .i64 a0_2), (FV.int .i64 a0_3), (FV.int .i64 a0_4), (FV.int .i64 a0_5)]))] = some ([.fz (FV.int .i64 (IntKind.wrap .i64 (a0_0_0_0 - a0_2)))], [.fz (FV.ag [(FV.int .i64 a0_0_0_0), (FV.int .i64 a0_0_0_1), (FV.bool a0_0_0_2), (FV.pt 195 true a0_1 0), (FV.int .i64 a0_2), (FV.int .i64 a0_3), (FV.int .i64 a0_4), (FV.int .i64 a0_5)])]) := by kernel_rfl
theorem E_meter_Meter_Left_v1 (R : Orc) (k : Nat) (w : Bool) : callL R k w A_meter_Meter_Left [.fz FV.nilp] = some ([.fz (FV.int .i64 0)], []) := by kernel_rfl
/-! (*keyhole/meter.Meter).End -/
def A_meter_Meter_End : AFunc := ⟨1, [(.tmp 2, .fz)], .seq (.region [⟨(some 2), .mov (.c (.fz (.int .i64 0))), none, some (.int .i64)⟩])
 (.seq (.seq (.region [⟨(some 3), .mov (.t 0), none, none⟩,
    ⟨(some 4), .eqNil false (.t 3), none, some .bool⟩])
   (.cond (.t 4) (.seq (.region [⟨(some 2), .mov (.c (.fz (.int .i64 0))), none, some (.int .i64)⟩])
     (.ret))
    (.skip)))
  (.seq (.region [⟨(some 5), .mov (.t 0), none, none⟩,
    ⟨(some 6), .nilck (.t 5), none, none⟩,
    ⟨(some 7), .fadr 7 (.t 6), none, none⟩,
    ⟨(some 8), .load 1 false (.t 7), none, some (.int .i64)⟩,
    ⟨(some 2), .mov (.t 8), none, some (.int .i64)⟩])
   (.ret)))⟩
theorem E_meter_Meter_End (R : Orc) (k : Nat) (w : Bool) (a0_0_0_0 : Int) (a0_0_0_1 : Int) (a0_0_0_2 : Bool) (a0_1 : FV) (a0_2 : Int) (a0_3 : Int) (a0_4 : Int) (a0_5 : Int) : callL R k w A_meter_Meter_End [.pv 8 true (.fz (FV.ag [(FV.int .i64 a0_0_0_0), (FV.int .i64 a0_0_0_1), (FV.bool a0_0_0_2), (FV.pt 195 true a0_1 0), (FV.int .i64 a0_2), (FV.int .i64 a0_3), (FV.int .i64 a0_4), (FV.int .i64 a0_5)]))] = some ([.fz (FV.int .i64 a0_5)], [.fz (FV.ag [(FV.int .i64 a0_0_0_0), (FV.int .i64 a0_0_0_1), (FV.bool a0_0_0_2), (FV.pt 195 true a0_1 0), (FV.int .i64 a0_2), (FV.int .i64 a0_3), (FV.int .i64 a0_4), (FV.int .i64 a0_5)])]) := by kernel_rfl
theorem E_meter_Meter_End_v1 (R : Orc) (k : Nat) (w : Bool) : callL R k w A_meter_Meter_End [.fz FV.nilp] = some ([.fz (FV.int .i64 0)], []) := by kernel_rfl
/-! (*keyhole/meter.Meter).Raise -/
def A_meter_Meter_Raise : AFunc := ⟨2, [(.tmp 4, .fz)], .seq (.region [⟨(some 4), .mov (.c (.fz (.bool false))), none, some .bool⟩])
 (.seq (.seq (.region [⟨(some 5), .mov (.t 0), none, none⟩,
    ⟨(some 6), .call N_meter_Meter_done [((.t 5), .pv 8 true)] [.fz], none, some .bool⟩])
   (.cond (.t 6) (.seq (.region [⟨(some 4), .mov (.c (.fz (.bool false))), none, some .bool⟩])
     (.ret))
    (.skip)))
  (.seq (.draws [⟨⟨(some 7), .mov (.t 0), none, none⟩, []⟩,
    ⟨⟨(some 8), .mov (.t 0), none, none⟩, []⟩,
    ⟨⟨(some 9), .nilck (.t 8), none, none⟩, [1]⟩,
    ⟨⟨(some 10), .fadr 3 (.t 9), none, none⟩, [2]⟩,
    ⟨⟨(some 11), .load 1 false (.t 10), none, none⟩, [3]⟩,
    ⟨⟨(some 12), .mov (.t 0), none, none⟩, []⟩,
    ⟨⟨(some 13), .nilck (.t 12), none, none⟩, [5]⟩,
    ⟨⟨(some 14), .fadr 5 (.t 13), none, none⟩, [6]⟩,
    ⟨⟨(some 15), .load 1 false (.t 14), none, some (.int .i64)⟩, [7]⟩,
    ⟨⟨(some 16), .mov (.t 1), none, some (.int .i64)⟩, []⟩,
    ⟨⟨(some 17), .call N_level_Lattice_Join [((.t 11), .fz), ((.t 15), .fz), ((.t 16), .fz)] [.fz], none, some (.int .i64)⟩, [4, 8, 9]⟩,
    ⟨⟨(some 18), .nilck (.t 7), none, none⟩, [0, 0, 1, 2, 3, 4, 5, 6, 7, 8, 9, 10]⟩,
    ⟨⟨(some 19), .fadr 5 (.t 18), none, none⟩, [11, 0, 1, 2, 3, 4, 5, 6, 7, 8, 9, 10]⟩,
    ⟨⟨none, .store 1 false (.t 19) (.t 17), none, none⟩, [12, 10, 10, 0, 1, 2, 3, 4, 5, 6, 7, 8, 9, 10]⟩])
   (.seq (.seq (.draws [⟨⟨(some 20), .mov (.t 0), none, none⟩, []⟩,
      ⟨⟨(some 21), .nilck (.t 20), none, none⟩, [0]⟩,
      ⟨⟨(some 22), .fadr 0 (.t 21), none, none⟩, [1]⟩,
      ⟨⟨(some 23), .load 3 true (.t 22), none, none⟩, [2]⟩,
      ⟨⟨(some 24), .mov (.t 0), none, none⟩, []⟩,
      ⟨⟨(some 25), .nilck (.t 24), none, none⟩, [4]⟩,
      ⟨⟨(some 26), .fadr 3 (.t 25), none, none⟩, [5]⟩,
      ⟨⟨(some 27), .load 1 false (.t 26), none, none⟩, [6]⟩,
      ⟨⟨(some 28), .mov (.t 0), none, none⟩, []⟩,
      ⟨⟨(some 29), .nilck (.t 28), none, none⟩, [8]⟩,
      ⟨⟨(some 30), .fadr 5 (.t 29), none, none⟩, [9]⟩,
      ⟨⟨(some 31), .load 1 false (.t 30), none, some (.int .i64)⟩, [10]⟩,
      ⟨⟨(some 32), .call N_meter_asked_over [((.t 23), .fz), ((.t 27), .fz), ((.t 31), .fz)] [.fz], none, some .bool⟩, [3, 7, 11]⟩])
     (.cond (.t 32) (.seq (.region [⟨(some 33), .mov (.t 0), none, none⟩,
        ⟨(some 34), .call N_meter_Meter_stop [((.t 33), .pv 8 true), ((.c (.fz (.int .i64 2))), .fz)] [.fz], none, some .bool⟩,
        ⟨(some 4), .mov (.t 34), none, some .bool⟩])
       (.ret))
      (.skip)))
    (.seq (.region [⟨(some 4), .mov (.c (.fz (.bool true))), none, some .bool⟩])
     (.ret)))))⟩
theorem E_meter_Meter_Raise (R : Orc) (k : Nat) (w : Bool) (a0_0_0_0 : Int) (a0_0_0_1 : Int) (a0_0_0_2 : Bool) (a0_1 : FV) (a0_2 : Int) (a0_3 : Int) (a0_4 : Int) (a0_5 : Int) (a1 : Int) : callL R k w A_meter_Meter_Raise [.pv 8 true (.fz (FV.ag [(FV.int .i64 a0_0_0_0), (FV.int .i64 a0_0_0_1), (FV.bool a0_0_0_2), (FV.pt 195 true a0_1 0), (FV.int .i64 a0_2), (FV.int .i64 a0_3), (FV.int .i64 a0_4), (FV.int .i64 a0_5)])), .fz (FV.int .i64 a1)] = onR (R N_meter_Meter_done [.pv 8 true (.fz (FV.ag [(FV.int .i64 a0_0_0_0), (FV.int .i64 a0_0_0_1), (FV.bool a0_0_0_2), (FV.pt 195 true a0_1 0), (FV.int .i64 a0_2), (FV.int .i64 a0_3), (FV.int .i64 a0_4), (FV.int .i64 a0_5)]))]) fun r0 => when (List.length r0.2 == 1 && (List.all r0.2 LV.isFz && List.length r0.1 == 1)) (when (TV.isF (List.getD r0.1 0 TV.em)) (when (FV.isBool (TV.toF (List.getD r0.1 0 TV.em))) (ifB (FV.toBool (TV.toF (List.getD r0.1 0 TV.em)))
  (some ([.fz (FV.bool false)], [.fz (LV.toFz (List.getD r0.2 0 LV.nils))]))
  (when (FV.isAg 8 (LV.toFz (List.getD r0.2 0 LV.nils))) (when (FV.isAg 8 (LV.toFz (List.getD r0.2 0 LV.nils))) (when (FV.isInt .i64 (FV.cell (LV.toFz (List.getD r0.2 0 LV.nils)) 5)) (onR (R N_level_Lattice_Join [.fz (FV.cell (LV.toFz (List.getD r0.2 0 LV.nils)) 3), .fz (FV.int .i64 (FV.toInt (FV.cell (LV.toFz (List.getD r0.2 0 LV.nils)) 5))), .fz (FV.int .i64 a1)]) fun r1 => when (List.isEmpty r1.2 && allF [.fz] r1.1) (when (FV.isInt .i64 (TV.toF (List.getD r1.1 0 TV.em))) (when ((FV.isAg 8 (LV.toFz (List.getD r0.2 0 LV.nils))) && true) (when (FV.isAg 8 (FV.ag (List.set (FV.toAg (LV.toFz (List.getD r0.2 0 LV.nils))) 5 (FV.int .i64 (FV.toInt (TV.toF (List.getD r1.1 0 TV.em))))))) (when (FV.isAg 8 (FV.ag (List.set (FV.toAg (LV.toFz (List.getD r0.2 0 LV.nils))) 5 (FV.int .i64 (FV.toInt (TV.toF (List.getD r1.1 0 TV.em))))))) (when (FV.isAg 8 (FV.ag (List.set (FV.toAg (LV.toFz (List.getD r0.2 0 LV.nils))) 5 (FV.int .i64 (FV.toInt (TV.toF (List.getD r1.1 0 TV.em))))))) (when (FV.isInt .i64 (FV.cell (FV.ag (List.set (FV.toAg (LV.toFz (List.getD r0.2 0 LV.nils))) 5 (FV.int .i64 (FV.toInt (TV.toF (List.getD r1.1 0 TV.em)))))) 5)) (onR (R N_meter_asked_over [.fz (FV.ag [(FV.cell (FV.ag (List.set (FV.toAg (LV.toFz (List.getD r0.2 0 LV.nils))) 5 (FV.int .i64 (FV.toInt (TV.toF (List.getD r1.1 0 TV.em)))))) 0), (FV.cell (FV.ag (List.set (FV.toAg (LV.toFz (List.getD r0.2 0 LV.nils))) 5 (FV.int .i64 (FV.toInt (TV.toF (List.getD r1.1 0 TV.em)))))) 1), (FV.cell (FV.ag (List.set (FV.toAg (LV.toFz (List.getD r0.2 0 LV.nils))) 5 (FV.int .i64 (FV.toInt (TV.toF (List.getD r1.1 0 TV.em)))))) 2)]), .fz (FV.cell (FV.ag (List.set (FV.toAg (LV.toFz (List.getD r0.2 0 LV.nils))) 5 (FV.int .i64 (FV.toInt (TV.toF (List.getD r1.1 0 TV.em)))))) 3), .fz (FV.int .i64 (FV.toInt (FV.cell (FV.ag (List.set (FV.toAg (LV.toFz (List.getD r0.2 0 LV.nils))) 5 (FV.int .i64 (FV.toInt (TV.toF (List.getD r1.1 0 TV.em)))))) 5)))]) fun r2 => when (List.isEmpty r2.2 && allF [.fz] r2.1) (when (FV.isBool (TV.toF (List.getD r2.1 0 TV.em))) (ifB (FV.toBool (TV.toF (List.getD r2.1 0 TV.em)))
   (onR (R N_meter_Meter_stop [.pv 8 true (.fz (FV.ag (List.set (FV.toAg (LV.toFz (List.getD r0.2 0 LV.nils))) 5 (FV.int .i64 (FV.toInt (TV.toF (List.getD r1.1 0 TV.em))))))), .fz (FV.int .i64 2)]) fun r3 => when (List.length r3.2 == 1 && (List.all r3.2 LV.isFz && List.length r3.1 == 1)) (when (TV.isF (List.getD r3.1 0 TV.em)) (when (FV.isBool (TV.toF (List.getD r3.1 0 TV.em))) (some ([.fz (FV.bool (FV.toBool (TV.toF (List.getD r3.1 0 TV.em))))], [.fz (LV.toFz (List.getD r3.2 0 LV.nils))])))))
   (some ([.fz (FV.bool true)], [.fz (FV.ag (List.set (FV.toAg (LV.toFz (List.getD r0.2 0 LV.nils))) 5 (FV.int .i64 (FV.toInt (TV.toF (List.getD r1.1 0 TV.em))))))])))))))))))))))))) := by kernel_rfl
theorem E_meter_Meter_Raise_v1 (R : Orc) (k : Nat) (w : Bool) (a1 : Int) : callL R k w A_meter_Meter_Raise [.fz FV.nilp, .fz (FV.int .i64 a1)] = onR (R N_meter_Meter_done [.fz .nilp]) fun r4 => when (List.isEmpty r4.2 && allF [.fz] r4.1) (when (FV.isBool (TV.toF (List.getD r4.1 0 TV.em))) (ifB (FV.toBool (TV.toF (List.getD r4.1 0 TV.em)))
  (some ([.fz (FV.bool false)], []))
  (none))) := by kernel_rfl
/-! (*keyhole/meter.Meter).Tell -/
def A_meter_Meter_Tell : AFunc := ⟨1, [(.tmp 2, .fz)], .seq (.region [⟨(some 2), .mov (.c (.fz (.bool false))), none, some .bool⟩])
 (.seq (.block 0 (.seq (.region [⟨(some 4), .mov (.t 0), none, none⟩,
     ⟨(some 5), .call N_meter_Meter_done [((.t 4), .pv 8 true)] [.fz], none, some .bool⟩,
     ⟨(some 3), .mov (.t 5), none, some .bool⟩])
    (.cond (.t 3) (.seq (.region [⟨(some 2), .mov (.c (.fz (.bool false))), none, some .bool⟩])
      (.ret))
     (.seq (.region [⟨(some 7), .mov (.t 0), none, none⟩,
       ⟨(some 8), .nilck (.t 7), none, none⟩,
       ⟨(some 9), .fadr 6 (.t 8), none, none⟩,
       ⟨(some 10), .load 1 false (.t 9), none, some (.int .i64)⟩,
       ⟨(some 11), .binI .geq .i64 (.t 10) (.c (.fz (.int .i64 512))), none, some .bool⟩,
       ⟨(some 6), .mov (.t 11), none, some .bool⟩])
      (.cond (.t 6) (.seq (.region [⟨(some 12), .mov (.t 0), none, none⟩,
         ⟨(some 13), .call N_meter_Meter_stop [((.t 12), .pv 8 true), ((.c (.fz (.int .i64 3))), .fz)] [.fz], none, some .bool⟩,
         ⟨(some 2), .mov (.t 13), none, some .bool⟩])
        (.ret))
       (.skip))))))
  (.seq (.region [⟨(some 14), .mov (.t 0), none, none⟩,
    ⟨(some 15), .nilck (.t 14), none, none⟩,
    ⟨(some 16), .fadr 6 (.t 15), none, none⟩,
    ⟨(some 17), .load 1 false (.t 16), none, some (.int .i64)⟩,
    ⟨(some 18), .binI .add .i64 (.t 17) (.c (.fz (.int .i64 1))), none, some (.int .i64)⟩,
    ⟨(some 19), .nilck (.t 14), none, none⟩,
    ⟨(some 20), .fadr 6 (.t 19), none, none⟩,
    ⟨none, .store 1 false (.t 20) (.t 18), none, none⟩])
   (.seq (.region [⟨(some 2), .mov (.c (.fz (.bool true))), none, some .bool⟩])
    (.ret))))⟩
theorem E_meter_Meter_Tell (R : Orc) (k : Nat) (w : Bool) (a0_0_0_0 : Int) (a0_0_0_1 : Int) (a0_0_0_2 : Bool) (a0_1 : FV) (a0_2 : Int) (a0_3 : Int) (a0_4 : Int) (a0_5 : Int) : callL R k w A_meter_Meter_Tell [.pv 8 true (.fz (FV.ag [(FV.int .i64 a0_0_0_0), (FV.int .i64 a0_0_0_1), (FV.bool a0_0_0_2), (FV.pt 195 true a0_1 0), (FV.int .i64 a0_2), (FV.int .i64 a0_3), (FV.int .i64 a0_4), (FV.int .i64 a0_5)]))] = onR (R N_meter_Meter_done [.pv 8 true (.fz (FV.ag [(FV.int .i64 a0_0_0_0), (FV.int .i64 a0_0_0_1), (FV.bool a0_0_0_2), (FV.pt 195 true a0_1 0), (FV.int .i64 a0_2), (FV.int .i64 a0_3), (FV.int .i64 a0_4), (FV.int .i64 a0_5)]))]) fun r0 => when (List.length r0.2 == 1 && (List.all r0.2 LV.isFz && List.length r0.1 == 1)) (when (TV.isF (List.getD r0.1 0 TV.em)) (when (FV.isBool (TV.toF (List.getD r0.1 0 TV.em))) (ifB (FV.toBool (TV.toF (List.getD r0.1 0 TV.em)))
  (some ([.fz (FV.bool false)], [.fz (LV.toFz (List.getD r0.2 0 LV.nils))]))
  (when (FV.isAg 8 (LV.toFz (List.getD r0.2 0 LV.nils))) (when (FV.isInt .i64 (FV.cell (LV.toFz (List.getD r0.2 0 LV.nils)) 6)) (ifB (decide ((FV.toInt (FV.cell (LV.toFz (List.getD r0.2 0 LV.nils)) 6)) ≥ 512))
   (onR (R N_meter_Meter_stop [.pv 8 true (.fz (LV.toFz (List.getD r0.2 0 LV.nils))), .fz (FV.int .i64 3)]) fun r1 => when (List.length r1.2 == 1 && (List.all r1.2 LV.isFz && List.length r1.1 == 1)) (when (TV.isF (List.getD r1.1 0 TV.em)) (when (FV.isBool (TV.toF (List.getD r1.1 0 TV.em))) (some ([.fz (FV.bool (FV.toBool (TV.toF (List.getD r1.1 0 TV.em))))], [.fz (LV.toFz (List.getD r1.2 0 LV.nils))])))))
   (when (FV.isAg 8 (LV.toFz (List.getD r0.2 0 LV.nils))) (when (FV.isInt .i64 (FV.cell (LV.toFz (List.getD r0.2 0 LV.nils)) 6)) (when ((FV.isAg 8 (LV.toFz (List.getD r0.2 0 LV.nils))) && true) (some ([.fz (FV.bool true)], [.fz (FV.ag (List.set (FV.toAg (LV.toFz (List.getD r0.2 0 LV.nils))) 6 (FV.int .i64 (IntKind.wrap .i64 ((FV.toInt (FV.cell (LV.toFz (List.getD r0.2 0 LV.nils)) 6)) + 1)))))]))))))))))) := by kernel_rfl
theorem E_meter_Meter_Tell_v1 (R : Orc) (k : Nat) (w : Bool) : callL R k w A_meter_Meter_Tell [.fz FV.nilp] = onR (R N_meter_Meter_done [.fz .nilp]) fun r2 => when (List.isEmpty r2.2 && allF [.fz] r2.1) (when (FV.isBool (TV.toF (List.getD r2.1 0 TV.em))) (ifB (FV.toBool (TV.toF (List.getD r2.1 0 TV.em)))
  (some ([.fz (FV.bool false)], []))
  (none))) := by kernel_rfl
/-! (*keyhole/meter.Meter).Label -/
def A_meter_Meter_Label : AFunc := ⟨1, [(.tmp 2, .fz)], .seq (.region [⟨(some 2), .mov (.c (.fz (.int .i64 0))), none, some (.int .i64)⟩])
 (.seq (.seq (.region [⟨(some 3), .mov (.t 0), none, none⟩,
    ⟨(some 4), .eqNil false (.t 3), none, some .bool⟩])
   (.cond (.t 4) (.seq (.region [⟨(some 2), .mov (.c (.fz (.int .i64 0))), none, some (.int .i64)⟩])
     (.ret))
    (.skip)))
  (.seq (.region [⟨(some 5), .mov (.t 0), none, none⟩,
    ⟨(some 6), .nilck (.t 5), none, none⟩,
    ⟨(some 7), .fadr 5 (.t 6), none, none⟩,
    ⟨(some 8), .load 1 false (.t 7), none, some (.int .i64)⟩,
    ⟨(some 2), .mov (.t 8), none, some (.int .i64)⟩])
   (.ret)))⟩
theorem E_meter_Meter_Label (R : Orc) (k : Nat) (w : Bool) (a0_0_0_0 : Int) (a0_0_0_1 : Int) (a0_0_0_2 : Bool) (a0_1 : FV) (a0_2 : Int) (a0_3 : Int) (a0_4 : Int) (a0_5 : Int) : callL R k w A_meter_Meter_Label [.pv 8 true (.fz (FV.ag [(FV.int .i64 a0_0_0_0), (FV.int .i64 a0_0_0_1), (FV.bool a0_0_0_2), (FV.pt 195 true a0_1 0), (FV.int .i64 a0_2), (FV.int .i64 a0_3), (FV.int .i64 a0_4), (FV.int .i64 a0_5)]))] = some ([.fz (FV.int .i64 a0_3)], [.fz (FV.ag [(FV.int .i64 a0_0_0_0), (FV.int .i64 a0_0_0_1), (FV.bool a0_0_0_2), (FV.pt 195 true a0_1 0), (FV.int .i64 a0_2), (FV.int .i64 a0_3), (FV.int .i64 a0_4), (FV.int .i64 a0_5)])]) := by kernel_rfl
theorem E_meter_Meter_Label_v1 (R : Orc) (k : Nat) (w : Bool) : callL R k w A_meter_Meter_Label [.fz FV.nilp] = some ([.fz (FV.int .i64 0)], []) := by kernel_rfl
/-! keyhole/keyholeref09.Bottom -/
def A_ref09_Bottom_b1 : ACode := .seq (.seq (.region [⟨(some 12), .mov (.t 5), none, some (.int .i64)⟩,
   ⟨(some 13), .mov (.t 0), none, none⟩,
   ⟨(some 14), .len (.sl 1 false) (.t 13), none, some (.int .i64)⟩,
   ⟨(some 15), .binI .lss .i64 (.t 12) (.t 14), none, some .bool⟩])
  (.cond (.t 15) (.skip)
   (.exit 2)))
 (.seq (.block 3 (.region [⟨(some 18), .mov (.t 4), none, some .bool⟩,
    ⟨(some 19), .mov (.t 18), none, some .bool⟩,
    ⟨(some 20), .mov (.t 0), (some (19, true)), none⟩,
    ⟨(some 21), .mov (.t 3), (some (19, true)), some (.int .i64)⟩,
    ⟨(some 22), .iadr (.sl 1 false) (.t 20) (.t 21), (some (19, true)), none⟩,
    ⟨(some 23), .load 1 false (.t 22), (some (19, true)), none⟩,
    ⟨(some 24), .mov (.t 5), (some (19, true)), some (.int .i64)⟩,
    ⟨(some 25), .iadr (.sl 1 false) (.t 23) (.t 24), (some (19, true)), none⟩,
    ⟨(some 26), .load 1 false (.t 25), (some (19, true)), some .bool⟩,
    ⟨(some 27), .pick (.t 19) (.t 26) (.c (.fz (.bool false))), none, some .bool⟩,
    ⟨(some 4), .mov (.t 27), none, some .bool⟩]))
  (.region [⟨(some 16), .mov (.t 5), none, some (.int .i64)⟩,
   ⟨(some 17), .binI .add .i64 (.t 16) (.c (.fz (.int .i64 1))), none, some (.int .i64)⟩,
   ⟨(some 5), .mov (.t 17), none, some (.int .i64)⟩]))
def A_ref09_Bottom_s1 : ACode := .seq (.region [⟨(some 28), .mov (.t 4), none, some .bool⟩])
 (.cond (.t 28) (.seq (.region [⟨(some 29), .mov (.t 3), none, some (.int .i64)⟩,
    ⟨(some 2), .mov (.t 29), none, some (.int .i64)⟩])
   (.ret))
  (.skip))
def A_ref09_Bottom_s2 : ACode := .region [⟨(some 10), .mov (.t 3), none, some (.int .i64)⟩,
 ⟨(some 11), .binI .add .i64 (.t 10) (.c (.fz (.int .i64 1))), none, some (.int .i64)⟩,
 ⟨(some 3), .mov (.t 11), none, some (.int .i64)⟩]
def A_ref09_Bottom_b2 : ACode := .seq (.seq (.region [⟨(some 6), .mov (.t 3), none, some (.int .i64)⟩,
   ⟨(some 7), .mov (.t 0), none, none⟩,
   ⟨(some 8), .len (.sl 1 false) (.t 7), none, some (.int .i64)⟩,
   ⟨(some 9), .binI .lss .i64 (.t 6) (.t 8), none, some .bool⟩])
  (.cond (.t 9) (.skip)
   (.exit 0)))
 (.seq (.block 1 (.seq (.region [⟨(some 4), .mov (.c (.fz (.bool true))), none, some .bool⟩])
    (.seq (.seq (.region [⟨(some 5), .mov (.c (.fz (.int .i64 0))), none, some (.int .i64)⟩])
      (.block 2 (.loop [0, 3, 4, 5] [0, 3, 4] A_ref09_Bottom_b1)))
     A_ref09_Bottom_s1)))
  A_ref09_Bottom_s2)
def A_ref09_Bottom_s3 : ACode := .seq (.region [⟨(some 2), .mov (.c (.fz (.int .i64 0))), none, some (.int .i64)⟩])
 (.ret)
def A_ref09_Bottom : AFunc := ⟨1, [(.tmp 2, .fz)], .seq (.region [⟨(some 2), .mov (.c (.fz (.int .i64 0))), none, some (.int .i64)⟩])
 (.seq (.seq (.region [⟨(some 3), .mov (.c (.fz (.int .i64 0))), none, some (.int .i64)⟩])
   (.block 0 (.loop [0, 3] [2] A_ref09_Bottom_b2)))
  A_ref09_Bottom_s3)⟩
def K_ref09_Bottom_2 (R : Orc) (k : Nat) (w : Bool) : AExit → St → Option Ans := (kBlk 0 (kSeq R k w [] A_ref09_Bottom_s3 (kFin R [(.tmp 2, .fz)] [])))
def L_ref09_Bottom_2_0 (R : Orc) (k : Nat) (w : Bool) (n : Nat) (x0 : List FV) (x3 : Int) := loopL R k w [] [0, 3] [2] A_ref09_Bottom_b2 n ⟨[(0, .fz (FV.sl x0)), (3, .fz (FV.int .i64 x3))], [(4095, .dead)]⟩
def K_ref09_Bottom_1 (R : Orc) (k : Nat) (w : Bool) (n : Nat) : AExit → St → Option (AExit × St) := (kBlk 2 (kSeq R k w [] A_ref09_Bottom_s1 (kBlk 1 (kSeq R k w [] A_ref09_Bottom_s2 (kLoop R k w [] [0, 3] [2] A_ref09_Bottom_b2 n)))))
def L_ref09_Bottom_1_0 (R : Orc) (k : Nat) (w : Bool) (n : Nat) (x0 : List FV) (x3 : Int) (x4 : Bool) (x5 : Int) := loopL R k w [] [0, 3, 4, 5] [0, 3, 4] A_ref09_Bottom_b1 n ⟨[(0, .fz (FV.sl x0)), (3, .fz (FV.int .i64 x3)), (4, .fz (FV.bool x4)), (5, .fz (FV.int .i64 x5))], [(4095, .dead)]⟩
def X_ref09_Bottom_2_0 : St := ⟨[], [(4095, .dead)]⟩
def X_ref09_Bottom_1_0 (x0 : List FV) (x3 : Int) (x4 : Bool) : St := ⟨[(0, .fz (FV.sl x0)), (3, .fz (FV.int .i64 x3)), (4, .fz (FV.bool x4))], [(4095, .dead)]⟩
def X_ref09_Bottom_2_1 (x2 : Int) : St := ⟨[(2, .fz (FV.int .i64 x2))], [(4095, .dead)]⟩
theorem E_ref09_Bottom (R : Orc) (k : Nat) (w : Bool) (a0 : List FV) : callL R k w A_ref09_Bottom [.fz (FV.sl a0)] = onL (L_ref09_Bottom_2_0 R k w k a0 0) (K_ref09_Bottom_2 R k w) := by kernel_rfl
theorem L_ref09_Bottom_2_0_eq (R : Orc) (k : Nat) (w : Bool) (n : Nat) (x0 : List FV) (x3 : Int) : L_ref09_Bottom_2_0 R k w (n + 1) x0 x3 = ifB (decide (x3 < (List.length x0 : Int)))
  (onL (L_ref09_Bottom_1_0 R k w k x0 x3 true 0) (K_ref09_Bottom_1 R k w n))
  (some ((.exit 0), X_ref09_Bottom_2_0)) := by kernel_rfl
theorem L_ref09_Bottom_1_0_eq (R : Orc) (k : Nat) (w : Bool) (n : Nat) (x0 : List FV) (x3 : Int) (x4 : Bool) (x5 : Int) : L_ref09_Bottom_1_0 R k w (n + 1) x0 x3 x4 x5 = ifB (decide (x5 < (List.length x0 : Int)))
  (ifB x4
   (when ((decide (0 ≤ x3)) && (decide (x3 < (List.length x0 : Int)))) (when (FV.fits 1 false (List.getD x0 (Int.toNat x3) FV.nilp)) (when (FV.isSl (List.getD x0 (Int.toNat x3) FV.nilp)) (when ((decide (0 ≤ x5)) && (decide (x5 < (List.length (FV.toSl (List.getD x0 (Int.toNat x3) FV.nilp)) : Int)))) (when (FV.fits 1 false (List.getD (FV.toSl (List.getD x0 (Int.toNat x3) FV.nilp)) (Int.toNat x5) FV.nilp)) (when (FV.isBool (List.getD (FV.toSl (List.getD x0 (Int.toNat x3) FV.nilp)) (Int.toNat x5) FV.nilp)) (L_ref09_Bottom_1_0 R k w n x0 x3 (FV.toBool (List.getD (FV.toSl (List.getD x0 (Int.toNat x3) FV.nilp)) (Int.toNat x5) FV.nilp)) (IntKind.wrap .i64 (x5 + 1)))))))))
   (L_ref09_Bottom_1_0 R k w n x0 x3 false (IntKind.wrap .i64 (x5 + 1))))
  (some ((.exit 2), X_ref09_Bottom_1_0 x0 x3 x4)) := by kernel_rfl
theorem X_ref09_Bottom_2_0_eq (R : Orc) (k : Nat) (w : Bool) : K_ref09_Bottom_2 R k w (.exit 0) (X_ref09_Bottom_2_0) = some ([.fz (FV.int .i64 0)], []) := by kernel_rfl
theorem X_ref09_Bottom_1_0_eq (R : Orc) (k : Nat) (w : Bool) (n : Nat) (x0 : List FV) (x3 : Int) (x4 : Bool) : K_ref09_Bottom_1 R k w n (.exit 2) (X_ref09_Bottom_1_0 x0 x3 x4) = ifB x4
  (some (.ret, X_ref09_Bottom_2_1 x3))
  (L_ref09_Bottom_2_0 R k w n x0 (IntKind.wrap .i64 (x3 + 1))) := by kernel_rfl
theorem X_ref09_Bottom_2_1_eq (R : Orc) (k : Nat) (w : Bool) (x2 : Int) : K_ref09_Bottom_2 R k w .ret (X_ref09_Bottom_2_1 x2) = some ([.fz (FV.int .i64 x2)], []) := by kernel_rfl
/-! keyhole/keyholeref09.Top -/
def A_ref09_Top_b1 : ACode := .seq (.seq (.region [⟨(some 12), .mov (.t 5), none, some (.int .i64)⟩,
   ⟨(some 13), .mov (.t 0), none, none⟩,
   ⟨(some 14), .len (.sl 1 false) (.t 13), none, some (.int .i64)⟩,
   ⟨(some 15), .binI .lss .i64 (.t 12) (.t 14), none, some .bool⟩])
  (.cond (.t 15) (.skip)
   (.exit 2)))
 (.seq (.block 3 (.region [⟨(some 18), .mov (.t 4), none, some .bool⟩,
    ⟨(some 19), .mov (.t 18), none, some .bool⟩,
    ⟨(some 20), .mov (.t 0), (some (19, true)), none⟩,
    ⟨(some 21), .mov (.t 5), (some (19, true)), some (.int .i64)⟩,
    ⟨(some 22), .iadr (.sl 1 false) (.t 20) (.t 21), (some (19, true)), none⟩,
    ⟨(some 23), .load 1 false (.t 22), (some (19, true)), none⟩,
    ⟨(some 24), .mov (.t 3), (some (19, true)), some (.int .i64)⟩,
    ⟨(some 25), .iadr (.sl 1 false) (.t 23) (.t 24), (some (19, true)), none⟩,
    ⟨(some 26), .load 1 false (.t 25), (some (19, true)), some .bool⟩,
    ⟨(some 27), .pick (.t 19) (.t 26) (.c (.fz (.bool false))), none, some .bool⟩,
    ⟨(some 4), .mov (.t 27), none, some .bool⟩]))
  (.region [⟨(some 16), .mov (.t 5), none, some (.int .i64)⟩,
   ⟨(some 17), .binI .add .i64 (.t 16) (.c (.fz (.int .i64 1))), none, some (.int .i64)⟩,
   ⟨(some 5), .mov (.t 17), none, some (.int .i64)⟩]))
def A_ref09_Top_s1 : ACode := .seq (.region [⟨(some 28), .mov (.t 4), none, some .bool⟩])
 (.cond (.t 28) (.seq (.region [⟨(some 29), .mov (.t 3), none, some (.int .i64)⟩,
    ⟨(some 2), .mov (.t 29), none, some (.int .i64)⟩])
   (.ret))
  (.skip))
def A_ref09_Top_s2 : ACode := .region [⟨(some 10), .mov (.t 3), none, some (.int .i64)⟩,
 ⟨(some 11), .binI .add .i64 (.t 10) (.c (.fz (.int .i64 1))), none, some (.int .i64)⟩,
 ⟨(some 3), .mov (.t 11), none, some (.int .i64)⟩]
def A_ref09_Top_b2 : ACode := .seq (.seq (.region [⟨(some 6), .mov (.t 3), none, some (.int .i64)⟩,
   ⟨(some 7), .mov (.t 0), none, none⟩,
   ⟨(some 8), .len (.sl 1 false) (.t 7), none, some (.int .i64)⟩,
   ⟨(some 9), .binI .lss .i64 (.t 6) (.t 8), none, some .bool⟩])
  (.cond (.t 9) (.skip)
   (.exit 0)))
 (.seq (.block 1 (.seq (.region [⟨(some 4), .mov (.c (.fz (.bool true))), none, some .bool⟩])
    (.seq (.seq (.region [⟨(some 5), .mov (.c (.fz (.int .i64 0))), none, some (.int .i64)⟩])
      (.block 2 (.loop [0, 3, 4, 5] [0, 3, 4] A_ref09_Top_b1)))
     A_ref09_Top_s1)))
  A_ref09_Top_s2)
def A_ref09_Top_s3 : ACode := .seq (.region [⟨(some 2), .mov (.c (.fz (.int .i64 0))), none, some (.int .i64)⟩])
 (.ret)
def A_ref09_Top : AFunc := ⟨1, [(.tmp 2, .fz)], .seq (.region [⟨(some 2), .mov (.c (.fz (.int .i64 0))), none, some (.int .i64)⟩])
 (.seq (.seq (.region [⟨(some 3), .mov (.c (.fz (.int .i64 0))), none, some (.int .i64)⟩])
   (.block 0 (.loop [0, 3] [2] A_ref09_Top_b2)))
  A_ref09_Top_s3)⟩
def K_ref09_Top_2 (R : Orc) (k : Nat) (w : Bool) : AExit → St → Option Ans := (kBlk 0 (kSeq R k w [] A_ref09_Top_s3 (kFin R [(.tmp 2, .fz)] [])))
def L_ref09_Top_2_0 (R : Orc) (k : Nat) (w : Bool) (n : Nat) (x0 : List FV) (x3 : Int) := loopL R k w [] [0, 3] [2] A_ref09_Top_b2 n ⟨[(0, .fz (FV.sl x0)), (3, .fz (FV.int .i64 x3))], [(4095, .dead)]⟩
def K_ref09_Top_1 (R : Orc) (k : Nat) (w : Bool) (n : Nat) : AExit → St → Option (AExit × St) := (kBlk 2 (kSeq R k w [] A_ref09_Top_s1 (kBlk 1 (kSeq R k w [] A_ref09_Top_s2 (kLoop R k w [] [0, 3] [2] A_ref09_Top_b2 n)))))
def L_ref09_Top_1_0 (R : Orc) (k : Nat) (w : Bool) (n : Nat) (x0 : List FV) (x3 : Int) (x4 : Bool) (x5 : Int) := loopL R k w [] [0, 3, 4, 5] [0, 3, 4] A_ref09_Top_b1 n ⟨[(0, .fz (FV.sl x0)), (3, .fz (FV.int .i64 x3)), (4, .fz (FV.bool x4)), (5, .fz (FV.int .i64 x5))], [(4095, .dead)]⟩
def X_ref09_Top_2_0 : St := ⟨[], [(4095, .dead)]⟩
def X_ref09_Top_1_0 (x0 : List FV) (x3 : Int) (x4 : Bool) : St := ⟨[(0, .fz (FV.sl x0)), (3, .fz (FV.int .i64 x3)), (4, .fz (FV.bool x4))], [(4095, .dead)]⟩
def X_ref09_Top_2_1 (x2 : Int) : St := ⟨[(2, .fz (FV.int .i64 x2))], [(4095, .dead)]⟩
theorem E_ref09_Top (R : Orc) (k : Nat) (w : Bool) (a0 : List FV) : callL R k w A_ref09_Top [.fz (FV.sl a0)] = onL (L_ref09_Top_2_0 R k w k a0 0) (K_ref09_Top_2 R k w) := by kernel_rfl
theorem L_ref09_Top_2_0_eq (R : Orc) (k : Nat) (w : Bool) (n : Nat) (x0 : List FV) (x3 : Int) : L_ref09_Top_2_0 R k w (n + 1) x0 x3 = ifB (decide (x3 < (List.length x0 : Int)))
  (onL (L_ref09_Top_1_0 R k w k x0 x3 true 0) (K_ref09_Top_1 R k w n))
  (some ((.exit 0), X_ref09_Top_2_0)) := by kernel_rfl
theorem L_ref09_Top_1_0_eq (R : Orc) (k : Nat) (w : Bool) (n : Nat) (x0 : List FV) (x3 : Int) (x4 : Bool) (x5 : Int) : L_ref09_Top_1_0 R k w (n + 1) x0 x3 x4 x5 = ifB (decide (x5 < (List.length x0 : Int)))
  (ifB x4
   (when ((decide (0 ≤ x5)) && (decide (x5 < (List.length x0 : Int)))) (when (FV.fits 1 false (List.getD x0 (Int.toNat x5) FV.nilp)) (when (FV.isSl (List.getD x0 (Int.toNat x5) FV.nilp)) (when ((decide (0 ≤ x3)) && (decide (x3 < (List.length (FV.toSl (List.getD x0 (Int.toNat x5) FV.nilp)) : Int)))) (when (FV.fits 1 false (List.getD (FV.toSl (List.getD x0 (Int.toNat x5) FV.nilp)) (Int.toNat x3) FV.nilp)) (when (FV.isBool (List.getD (FV.toSl (List.getD x0 (Int.toNat x5) FV.nilp)) (Int.toNat x3) FV.nilp)) (L_ref09_Top_1_0 R k w n x0 x3 (FV.toBool (List.getD (FV.toSl (List.getD x0 (Int.toNat x5) FV.nilp)) (Int.toNat x3) FV.nilp)) (IntKind.wrap .i64 (x5 + 1)))))))))
   (L_ref09_Top_1_0 R k w n x0 x3 false (IntKind.wrap .i64 (x5 + 1))))
  (some ((.exit 2), X_ref09_Top_1_0 x0 x3 x4)) := by kernel_rfl
theorem X_ref09_Top_2_0_eq (R : Orc) (k : Nat) (w : Bool) : K_ref09_Top_2 R k w (.exit 0) (X_ref09_Top_2_0) = some ([.fz (FV.int .i64 0)], []) := by kernel_rfl
theorem X_ref09_Top_1_0_eq (R : Orc) (k : Nat) (w : Bool) (n : Nat) (x0 : List FV) (x3 : Int) (x4 : Bool) : K_ref09_Top_1 R k w n (.exit 2) (X_ref09_Top_1_0 x0 x3 x4) = ifB x4
  (some (.ret, X_ref09_Top_2_1 x3))
  (L_ref09_Top_2_0 R k w n x0 (IntKind.wrap .i64 (x3 + 1))) := by kernel_rfl
theorem X_ref09_Top_2_1_eq (R : Orc) (k : Nat) (w : Bool) (x2 : Int) : K_ref09_Top_2 R k w .ret (X_ref09_Top_2_1 x2) = some ([.fz (FV.int .i64 x2)], []) := by kernel_rfl
/-! keyhole/keyholeref09.Join -/
def A_ref09_Join : AFunc := ⟨3, [(.tmp 6, .fz)], .seq (.region [⟨(some 6), .mov (.c (.fz (.int .i64 0))), none, some (.int .i64)⟩])
 (.seq (.region [⟨(some 7), .mov (.t 0), none, none⟩,
   ⟨(some 8), .mov (.t 1), none, some (.int .i64)⟩,
   ⟨(some 9), .mov (.t 2), none, some (.int .i64)⟩,
   ⟨(some 10), .call N_ref01_Join [((.t 7), .fz), ((.t 8), .fz), ((.t 9), .fz)] [.fz], none, none⟩,
   ⟨(some 11), .iadr (.sl 1 false) (.t 10) (.c (.fz (.int .i64 0))), none, none⟩,
   ⟨(some 12), .load 1 false (.t 11), none, some (.int .i64)⟩,
   ⟨(some 6), .mov (.t 12), none, some (.int .i64)⟩])
  (.ret))⟩
theorem E_ref09_Join (R : Orc) (k : Nat) (w : Bool) (a0 : List FV) (a1 : Int) (a2 : Int) : callL R k w A_ref09_Join [.fz (FV.sl a0), .fz (FV.int .i64 a1), .fz (FV.int .i64 a2)] = onR (R N_ref01_Join [.fz (FV.sl a0), .fz (FV.int .i64 a1), .fz (FV.int .i64 a2)]) fun r0 => when (List.isEmpty r0.2 && allF [.fz] r0.1) (when (FV.isSl (TV.toF (List.getD r0.1 0 TV.em))) (when (decide (0 < (List.length (FV.toSl (TV.toF (List.getD r0.1 0 TV.em))) : Int))) (when (FV.fits 1 false (List.getD (FV.toSl (TV.toF (List.getD r0.1 0 TV.em))) 0 FV.nilp)) (when (FV.isInt .i64 (List.getD (FV.toSl (TV.toF (List.getD r0.1 0 TV.em))) 0 FV.nilp)) (some ([.fz (FV.int .i64 (FV.toInt (List.getD (FV.toSl (TV.toF (List.getD r0.1 0 TV.em))) 0 FV.nilp)))], [])))))) := by kernel_rfl
/-! (*keyhole/level.Lattice).Leq -/
def A_level_Lattice_Leq : AFunc := ⟨3, [(.tmp 6, .fz)], .seq (.region [⟨(some 6), .mov (.c (.fz (.bool false))), none, some .bool⟩])
 (.seq (.region [⟨(some 7), .mov (.t 0), none, none⟩,
   ⟨(some 8), .mov (.t 1), none, some (.int .i64)⟩,
   ⟨(some 9), .call N_level_Lattice_Is [((.t 7), .fz), ((.t 8), .fz)] [.fz], none, some .bool⟩,
   ⟨(some 10), .mov (.t 9), none, some .bool⟩,
   ⟨(some 11), .mov (.t 0), (some (10, true)), none⟩,
   ⟨(some 12), .mov (.t 2), (some (10, true)), some (.int .i64)⟩,
   ⟨(some 13), .call N_level_Lattice_Is [((.t 11), .fz), ((.t 12), .fz)] [.fz], (some (10, true)), some .bool⟩,
   ⟨(some 14), .pick (.t 10) (.t 13) (.c (.fz (.bool false))), none, some .bool⟩,
   ⟨(some 15), .mov (.t 14), none, some .bool⟩,
   ⟨(some 16), .mov (.t 0), (some (15, true)), none⟩,
   ⟨(some 17), .mov (.t 1), (some (15, true)), some (.int .i64)⟩,
   ⟨(some 18), .mov (.t 2), (some (15, true)), some (.int .i64)⟩,
   ⟨(some 19), .nilck (.t 16), (some (15, true)), none⟩,
   ⟨(some 20), .fadr 1 (.t 19), (some (15, true)), none⟩,
   ⟨(some 21), .iadr (.arr 8 8 true) (.t 20) (.t 17), (some (15, true)), none⟩,
   ⟨(some 22), .iadr (.arr 8 1 false) (.t 21) (.t 18), (some (15, true)), none⟩,
   ⟨(some 23), .load 1 false (.t 22), (some (15, true)), some .bool⟩,
   ⟨(some 24), .pick (.t 15) (.t 23) (.c (.fz (.bool false))), none, some .bool⟩,
   ⟨(some 6), .mov (.t 24), none, some .bool⟩])
  (.ret))⟩
theorem E_level_Lattice_Leq (R : Orc) (k : Nat) (w : Bool) (a0 : FV) (a1 : Int) (a2 : Int) : callL R k w A_level_Lattice_Leq [.fz (FV.pt 195 true a0 0), .fz (FV.int .i64 a1), .fz (FV.int .i64 a2)] = onR (R N_level_Lattice_Is [.fz (FV.pt 195 true a0 0), .fz (FV.int .i64 a1)]) fun r0 => when (List.isEmpty r0.2 && allF [.fz] r0.1) (when (FV.isBool (TV.toF (List.getD r0.1 0 TV.em))) (ifB (FV.toBool (TV.toF (List.getD r0.1 0 TV.em)))
  (onR (R N_level_Lattice_Is [.fz (FV.pt 195 true a0 0), .fz (FV.int .i64 a2)]) fun r1 => when (List.isEmpty r1.2 && allF [.fz] r1.1) (when (FV.isBool (TV.toF (List.getD r1.1 0 TV.em))) (ifB (FV.toBool (TV.toF (List.getD r1.1 0 TV.em)))
   (when (decide (0 ≤ a1) && decide (a1 < 8)) (when (decide (0 ≤ a2) && decide (a2 < 8)) (when (FV.isAg 195 a0) (when (Nat.blt ((1 + ((Int.toNat a1) * 8)) + ((Int.toNat a2) * 1)) 195) (when (FV.isBool (FV.cell a0 ((1 + ((Int.toNat a1) * 8)) + ((Int.toNat a2) * 1)))) (some ([.fz (FV.bool (FV.toBool (FV.cell a0 ((1 + ((Int.toNat a1) * 8)) + ((Int.toNat a2) * 1)))))], [])))))))
   (some ([.fz (FV.bool false)], [])))))
  (some ([.fz (FV.bool false)], [])))) := by kernel_rfl
/-! keyhole/keyholeref01.Sort -/
def A_ref01_Sort : AFunc := ⟨1, [(.cell 2 3 true, .fz)], .seq (.region [⟨(some 2), .alloc 3 true (.ag [.nils, .nils, .nils]), none, none⟩])
 (.seq (.seq (.region [⟨(some 3), .mov (.t 0), none, some (.int .i64)⟩,
    ⟨(some 4), .binI .rem .i64 (.t 3) (.c (.fz (.int .i64 6))), none, some (.int .i64)⟩,
    ⟨(some 5), .binI .add .i64 (.t 4) (.c (.fz (.int .i64 6))), none, some (.int .i64)⟩,
    ⟨(some 6), .binI .rem .i64 (.t 5) (.c (.fz (.int .i64 6))), none, some (.int .i64)⟩])
   (.block 0 (.seq (.region [⟨(some 8), .binI .eql .i64 (.t 6) (.c (.fz (.int .i64 0))), none, some .bool⟩,
      ⟨(some 7), .mov (.t 8), none, some .bool⟩])
     (.cond (.t 7) (.seq (.region [⟨(some 9), .buildSl 1 false 2 (.str ⟨#[]⟩) [(0, (.c (.fz (.str ⟨#[108, 111, 119]⟩)))), (1, (.c (.fz (.str ⟨#[104, 105, 103, 104]⟩))))], none, none⟩,
        ⟨(some 10), .build 2 [.fz (.int .i64 0), .fz (.int .i64 0)] [(0, 1, false, (.c (.fz (.int .i64 0)))), (1, 1, false, (.c (.fz (.int .i64 1))))], none, none⟩,
        ⟨(some 11), .buildSl 2 true 1 (.ag [.int .i64 0, .int .i64 0]) [(0, (.t 10))], none, none⟩,
        ⟨(some 12), .build 3 [.nils, .nils, .nils] [(0, 1, false, (.t 9)), (1, 1, false, (.t 11))], none, none⟩,
        ⟨none, .store 3 true (.t 2) (.t 12), none, none⟩])
       (.ret))
      (.seq (.region [⟨(some 14), .binI .eql .i64 (.t 6) (.c (.fz (.int .i64 1))), none, some .bool⟩,
        ⟨(some 13), .mov (.t 14), none, some .bool⟩])
       (.cond (.t 13) (.seq (.region [⟨(some 15), .buildSl 1 false 4 (.str ⟨#[]⟩) [(0, (.c (.fz (.str ⟨#[108, 111, 119]⟩)))), (1, (.c (.fz (.str ⟨#[108, 101, 102, 116]⟩)))), (2, (.c (.fz (.str ⟨#[114, 105, 103, 104, 116]⟩)))), (3, (.c (.fz (.str ⟨#[104, 105, 103, 104]⟩))))], none, none⟩,
          ⟨(some 16), .build 2 [.fz (.int .i64 0), .fz (.int .i64 0)] [(0, 1, false, (.c (.fz (.int .i64 0)))), (1, 1, false, (.c (.fz (.int .i64 1))))], none, none⟩,
          ⟨(some 17), .build 2 [.fz (.int .i64 0), .fz (.int .i64 0)] [(0, 1, false, (.c (.fz (.int .i64 0)))), (1, 1, false, (.c (.fz (.int .i64 2))))], none, none⟩,
          ⟨(some 18), .build 2 [.fz (.int .i64 0), .fz (.int .i64 0)] [(0, 1, false, (.c (.fz (.int .i64 1)))), (1, 1, false, (.c (.fz (.int .i64 3))))], none, none⟩,
          ⟨(some 19), .build 2 [.fz (.int .i64 0), .fz (.int .i64 0)] [(0, 1, false, (.c (.fz (.int .i64 2)))), (1, 1, false, (.c (.fz (.int .i64 3))))], none, none⟩,
          ⟨(some 20), .buildSl 2 true 4 (.ag [.int .i64 0, .int .i64 0]) [(0, (.t 16)), (1, (.t 17)), (2, (.t 18)), (3, (.t 19))], none, none⟩,
          ⟨(some 21), .build 3 [.nils, .nils, .nils] [(0, 1, false, (.t 15)), (1, 1, false, (.t 20))], none, none⟩,
          ⟨none, .store 3 true (.t 2) (.t 21), none, none⟩])
         (.ret))
        (.seq (.region [⟨(some 23), .binI .eql .i64 (.t 6) (.c (.fz (.int .i64 2))), none, some .bool⟩,
          ⟨(some 22), .mov (.t 23), none, some .bool⟩])
         (.cond (.t 22) (.seq (.region [⟨(some 24), .buildSl 1 false 3 (.str ⟨#[]⟩) [(0, (.c (.fz (.str ⟨#[97]⟩)))), (1, (.c (.fz (.str ⟨#[98]⟩)))), (2, (.c (.fz (.str ⟨#[99]⟩))))], none, none⟩,
            ⟨(some 25), .build 2 [.fz (.int .i64 0), .fz (.int .i64 0)] [(0, 1, false, (.c (.fz (.int .i64 0)))), (1, 1, false, (.c (.fz (.int .i64 1))))], none, none⟩,
            ⟨(some 26), .build 2 [.fz (.int .i64 0), .fz (.int .i64 0)] [(0, 1, false, (.c (.fz (.int .i64 1)))), (1, 1, false, (.c (.fz (.int .i64 2))))], none, none⟩,
            ⟨(some 27), .buildSl 2 true 2 (.ag [.int .i64 0, .int .i64 0]) [(0, (.t 25)), (1, (.t 26))], none, none⟩,
            ⟨(some 28), .build 3 [.nils, .nils, .nils] [(0, 1, false, (.t 24)), (1, 1, false, (.t 27))], none, none⟩,
            ⟨none, .store 3 true (.t 2) (.t 28), none, none⟩])
           (.ret))
          (.seq (.region [⟨(some 30), .binI .eql .i64 (.t 6) (.c (.fz (.int .i64 3))), none, some .bool⟩,
            ⟨(some 29), .mov (.t 30), none, some .bool⟩])
           (.cond (.t 29) (.seq (.region [⟨(some 31), .buildSl 1 false 1 (.str ⟨#[]⟩) [(0, (.c (.fz (.str ⟨#[111, 110, 101]⟩))))], none, none⟩,
              ⟨(some 32), .build 3 [.nils, .nils, .nils] [(0, 1, false, (.t 31))], none, none⟩,
              ⟨none, .store 3 true (.t 2) (.t 32), none, none⟩])
             (.ret))
            (.seq (.region [⟨(some 34), .binI .eql .i64 (.t 6) (.c (.fz (.int .i64 4))), none, some .bool⟩,
              ⟨(some 33), .mov (.t 34), none, some .bool⟩])
             (.cond (.t 33) (.seq (.region [⟨(some 35), .buildSl 1 false 5 (.str ⟨#[]⟩) [(0, (.c (.fz (.str ⟨#[116, 111, 112]⟩)))), (1, (.c (.fz (.str ⟨#[120]⟩)))), (2, (.c (.fz (.str ⟨#[121]⟩)))), (3, (.c (.fz (.str ⟨#[122]⟩)))), (4, (.c (.fz (.str ⟨#[98, 111, 116]⟩))))], none, none⟩,
                ⟨(some 36), .build 2 [.fz (.int .i64 0), .fz (.int .i64 0)] [(0, 1, false, (.c (.fz (.int .i64 4)))), (1, 1, false, (.c (.fz (.int .i64 1))))], none, none⟩,
                ⟨(some 37), .build 2 [.fz (.int .i64 0), .fz (.int .i64 0)] [(0, 1, false, (.c (.fz (.int .i64 4)))), (1, 1, false, (.c (.fz (.int .i64 2))))], none, none⟩,
                ⟨(some 38), .build 2 [.fz (.int .i64 0), .fz (.int .i64 0)] [(0, 1, false, (.c (.fz (.int .i64 4)))), (1, 1, false, (.c (.fz (.int .i64 3))))], none, none⟩,
                ⟨(some 39), .build 2 [.fz (.int .i64 0), .fz (.int .i64 0)] [(0, 1, false, (.c (.fz (.int .i64 1)))), (1, 1, false, (.c (.fz (.int .i64 0))))], none, none⟩,
                ⟨(some 40), .build 2 [.fz (.int .i64 0), .fz (.int .i64 0)] [(0, 1, false, (.c (.fz (.int .i64 2)))), (1, 1, false, (.c (.fz (.int .i64 0))))], none, none⟩,
                ⟨(some 41), .build 2 [.fz (.int .i64 0), .fz (.int .i64 0)] [(0, 1, false, (.c (.fz (.int .i64 3)))), (1, 1, false, (.c (.fz (.int .i64 0))))], none, none⟩,
                ⟨(some 42), .buildSl 2 true 6 (.ag [.int .i64 0, .int .i64 0]) [(0, (.t 36)), (1, (.t 37)), (2, (.t 38)), (3, (.t 39)), (4, (.t 40)), (5, (.t 41))], none, none⟩,
                ⟨(some 43), .build 3 [.nils, .nils, .nils] [(0, 1, false, (.t 35)), (1, 1, false, (.t 42))], none, none⟩,
                ⟨none, .store 3 true (.t 2) (.t 43), none, none⟩])
               (.ret))
              (.skip)))))))))))))
  (.seq (.region [⟨(some 44), .buildSl 1 false 8 (.str ⟨#[]⟩) [(0, (.c (.fz (.str ⟨#[111]⟩)))), (1, (.c (.fz (.str ⟨#[112]⟩)))), (2, (.c (.fz (.str ⟨#[113]⟩)))), (3, (.c (.fz (.str ⟨#[114]⟩)))), (4, (.c (.fz (.str ⟨#[112, 113]⟩)))), (5, (.c (.fz (.str ⟨#[112, 114]⟩)))), (6, (.c (.fz (.str ⟨#[113, 114]⟩)))), (7, (.c (.fz (.str ⟨#[97, 108, 108]⟩))))], none, none⟩,
    ⟨(some 45), .build 2 [.fz (.int .i64 0), .fz (.int .i64 0)] [(0, 1, false, (.c (.fz (.int .i64 0)))), (1, 1, false, (.c (.fz (.int .i64 1))))], none, none⟩,
    ⟨(some 46), .build 2 [.fz (.int .i64 0), .fz (.int .i64 0)] [(0, 1, false, (.c (.fz (.int .i64 0)))), (1, 1, false, (.c (.fz (.int .i64 2))))], none, none⟩,
    ⟨(some 47), .build 2 [.fz (.int .i64 0), .fz (.int .i64 0)] [(0, 1, false, (.c (.fz (.int .i64 0)))), (1, 1, false, (.c (.fz (.int .i64 3))))], none, none⟩,
    ⟨(some 48), .build 2 [.fz (.int .i64 0), .fz (.int .i64 0)] [(0, 1, false, (.c (.fz (.int .i64 1)))), (1, 1, false, (.c (.fz (.int .i64 4))))], none, none⟩,
    ⟨(some 49), .build 2 [.fz (.int .i64 0), .fz (.int .i64 0)] [(0, 1, false, (.c (.fz (.int .i64 2)))), (1, 1, false, (.c (.fz (.int .i64 4))))], none, none⟩,
    ⟨(some 50), .build 2 [.fz (.int .i64 0), .fz (.int .i64 0)] [(0, 1, false, (.c (.fz (.int .i64 1)))), (1, 1, false, (.c (.fz (.int .i64 5))))], none, none⟩,
    ⟨(some 51), .build 2 [.fz (.int .i64 0), .fz (.int .i64 0)] [(0, 1, false, (.c (.fz (.int .i64 3)))), (1, 1, false, (.c (.fz (.int .i64 5))))], none, none⟩,
    ⟨(some 52), .build 2 [.fz (.int .i64 0), .fz (.int .i64 0)] [(0, 1, false, (.c (.fz (.int .i64 2)))), (1, 1, false, (.c (.fz (.int .i64 6))))], none, none⟩,
    ⟨(some 53), .build 2 [.fz (.int .i64 0), .fz (.int .i64 0)] [(0, 1, false, (.c (.fz (.int .i64 3)))), (1, 1, false, (.c (.fz (.int .i64 6))))], none, none⟩,
    ⟨(some 54), .build 2 [.fz (.int .i64 0), .fz (.int .i64 0)] [(0, 1, false, (.c (.fz (.int .i64 4)))), (1, 1, false, (.c (.fz (.int .i64 7))))], none, none⟩,
    ⟨(some 55), .build 2 [.fz (.int .i64 0), .fz (.int .i64 0)] [(0, 1, false, (.c (.fz (.int .i64 5)))), (1, 1, false, (.c (.fz (.int .i64 7))))], none, none⟩,
    ⟨(some 56), .build 2 [.fz (.int .i64 0), .fz (.int .i64 0)] [(0, 1, false, (.c (.fz (.int .i64 6)))), (1, 1, false, (.c (.fz (.int .i64 7))))], none, none⟩,
    ⟨(some 57), .buildSl 2 true 12 (.ag [.int .i64 0, .int .i64 0]) [(0, (.t 45)), (1, (.t 46)), (2, (.t 47)), (3, (.t 48)), (4, (.t 49)), (5, (.t 50)), (6, (.t 51)), (7, (.t 52)), (8, (.t 53)), (9, (.t 54)), (10, (.t 55)), (11, (.t 56))], none, none⟩,
    ⟨(some 58), .build 3 [.nils, .nils, .nils] [(0, 1, false, (.t 44)), (1, 1, false, (.t 57))], none, none⟩,
    ⟨none, .store 3 true (.t 2) (.t 58), none, none⟩])
   (.ret)))⟩
theorem E_ref01_Sort (R : Orc) (k : Nat) (w : Bool) (a0 : Int) : callL R k w A_ref01_Sort [.fz (FV.int .i64 a0)] = ifB ((Int.tmod (IntKind.wrap .i64 ((Int.tmod a0 6) + 6)) 6) == 0)
  (some ([.fz (FV.ag [(FV.sl [(FV.str (⟨#[108, 111, 119]⟩ : ByteArray)), (FV.str (⟨#[104, 105, 103, 104]⟩ : ByteArray))]), (FV.sl [(FV.ag [(FV.int .i64 0), (FV.int .i64 1)])]), (FV.sl [])])], []))
  (ifB ((Int.tmod (IntKind.wrap .i64 ((Int.tmod a0 6) + 6)) 6) == 1)
   (some ([.fz (FV.ag [(FV.sl [(FV.str (⟨#[108, 111, 119]⟩ : ByteArray)), (FV.str (⟨#[108, 101, 102, 116]⟩ : ByteArray)), (FV.str (⟨#[114, 105, 103, 104, 116]⟩ : ByteArray)), (FV.str (⟨#[104, 105, 103, 104]⟩ : ByteArray))]), (FV.sl [(FV.ag [(FV.int .i64 0), (FV.int .i64 1)]), (FV.ag [(FV.int .i64 0), (FV.int .i64 2)]), (FV.ag [(FV.int .i64 1), (FV.int .i64 3)]), (FV.ag [(FV.int .i64 2), (FV.int .i64 3)])]), (FV.sl [])])], []))
   (ifB ((Int.tmod (IntKind.wrap .i64 ((Int.tmod a0 6) + 6)) 6) == 2)
    (some ([.fz (FV.ag [(FV.sl [(FV.str (⟨#[97]⟩ : ByteArray)), (FV.str (⟨#[98]⟩ : ByteArray)), (FV.str (⟨#[99]⟩ : ByteArray))]), (FV.sl [(FV.ag [(FV.int .i64 0), (FV.int .i64 1)]), (FV.ag [(FV.int .i64 1), (FV.int .i64 2)])]), (FV.sl [])])], []))
    (ifB ((Int.tmod (IntKind.wrap .i64 ((Int.tmod a0 6) + 6)) 6) == 3)
     (some ([.fz (FV.ag [(FV.sl [(FV.str (⟨#[111, 110, 101]⟩ : ByteArray))]), (FV.sl []), (FV.sl [])])], []))
     (ifB ((Int.tmod (IntKind.wrap .i64 ((Int.tmod a0 6) + 6)) 6) == 4)
      (some ([.fz (FV.ag [(FV.sl [(FV.str (⟨#[116, 111, 112]⟩ : ByteArray)), (FV.str (⟨#[120]⟩ : ByteArray)), (FV.str (⟨#[121]⟩ : ByteArray)), (FV.str (⟨#[122]⟩ : ByteArray)), (FV.str (⟨#[98, 111, 116]⟩ : ByteArray))]), (FV.sl [(FV.ag [(FV.int .i64 4), (FV.int .i64 1)]), (FV.ag [(FV.int .i64 4), (FV.int .i64 2)]), (FV.ag [(FV.int .i64 4), (FV.int .i64 3)]), (FV.ag [(FV.int .i64 1), (FV.int .i64 0)]), (FV.ag [(FV.int .i64 2), (FV.int .i64 0)]), (FV.ag [(FV.int .i64 3), (FV.int .i64 0)])]), (FV.sl [])])], []))
      (some ([.fz (FV.ag [(FV.sl [(FV.str (⟨#[111]⟩ : ByteArray)), (FV.str (⟨#[112]⟩ : ByteArray)), (FV.str (⟨#[113]⟩ : ByteArray)), (FV.str (⟨#[114]⟩ : ByteArray)), (FV.str (⟨#[112, 113]⟩ : ByteArray)), (FV.str (⟨#[112, 114]⟩ : ByteArray)), (FV.str (⟨#[113, 114]⟩ : ByteArray)), (FV.str (⟨#[97, 108, 108]⟩ : ByteArray))]), (FV.sl [(FV.ag [(FV.int .i64 0), (FV.int .i64 1)]), (FV.ag [(FV.int .i64 0), (FV.int .i64 2)]), (FV.ag [(FV.int .i64 0), (FV.int .i64 3)]), (FV.ag [(FV.int .i64 1), (FV.int .i64 4)]), (FV.ag [(FV.int .i64 2), (FV.int .i64 4)]), (FV.ag [(FV.int .i64 1), (FV.int .i64 5)]), (FV.ag [(FV.int .i64 3), (FV.int .i64 5)]), (FV.ag [(FV.int .i64 2), (FV.int .i64 6)]), (FV.ag [(FV.int .i64 3), (FV.int .i64 6)]), (FV.ag [(FV.int .i64 4), (FV.int .i64 7)]), (FV.ag [(FV.int .i64 5), (FV.int .i64 7)]), (FV.ag [(FV.int .i64 6), (FV.int .i64 7)])]), (FV.sl [])])], [])))))) := by kernel_rfl
end Go.Ab
