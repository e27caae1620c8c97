-- Written by a program of the session, out of the translation. Lean checks it.
import Derived.Test.YtppkdbgjflnibaaA0
namespace Go.Ab
set_option linter.unusedVariables false
set_option maxRecDepth 100000
/-! keyhole/keyholelaw09.NodeRaises -/
def A_law09_NodeRaises_b1 : ACode := .seq (.seq (.region [⟨(some 90), .mov (.t 12), none, some (.int .i64)⟩,
   ⟨(some 91), .fadr 6 (.t 11), none, none⟩,
   ⟨(some 92), .load 1 false (.t 91), none, none⟩,
   ⟨(some 93), .len (.sl 8 true) (.t 92), none, some (.int .i64)⟩,
   ⟨(some 94), .binI .lss .i64 (.t 90) (.t 93), none, some .bool⟩])
  (.cond (.t 94) (.skip)
   (.exit 0)))
 (.seq (.block 1 (.seq (.draws [⟨⟨(some 97), .fadr 6 (.t 11), none, none⟩, []⟩,
     ⟨⟨(some 98), .load 1 false (.t 97), none, none⟩, [0]⟩,
     ⟨⟨(some 99), .mov (.t 12), none, some (.int .i64)⟩, []⟩,
     ⟨⟨(some 100), .iadr (.sl 8 true) (.t 98) (.t 99), none, none⟩, [1, 2]⟩,
     ⟨⟨(some 101), .load 8 true (.t 100), none, none⟩, [3]⟩,
     ⟨⟨(some 102), .fadr 6 (.t 4), none, none⟩, []⟩,
     ⟨⟨(some 103), .load 1 false (.t 102), none, none⟩, [5]⟩,
     ⟨⟨(some 104), .mov (.t 12), none, some (.int .i64)⟩, []⟩,
     ⟨⟨(some 105), .iadr (.sl 8 true) (.t 103) (.t 104), none, none⟩, [6, 7]⟩,
     ⟨⟨(some 106), .load 8 true (.t 105), none, none⟩, [8]⟩,
     ⟨⟨(some 107), .call N_node_Same [((.t 101), .fz), ((.t 106), .fz)] [.fz], none, some .bool⟩, [4, 9]⟩,
     ⟨⟨(some 108), .notB (.t 107), none, some .bool⟩, [10]⟩])
    (.cond (.t 108) (.seq (.region [⟨(some 6), .mov (.c (.fz (.bool false))), none, some .bool⟩])
      (.ret))
     (.skip))))
  (.region [⟨(some 95), .mov (.t 12), none, some (.int .i64)⟩,
   ⟨(some 96), .binI .add .i64 (.t 95) (.c (.fz (.int .i64 1))), none, some (.int .i64)⟩,
   ⟨(some 12), .mov (.t 96), none, some (.int .i64)⟩]))
def A_law09_NodeRaises_s1 : ACode := .seq (.region [⟨(some 109), .mov (.t 7), none, none⟩,
  ⟨(some 110), .mov (.t 9), none, some (.int .i64)⟩,
  ⟨(some 111), .fadr 0 (.t 11), none, none⟩,
  ⟨(some 112), .load 1 false (.t 111), none, some (.int .i64)⟩,
  ⟨(some 113), .call N_level_Lattice_Leq [((.t 109), .fz), ((.t 110), .fz), ((.t 112), .fz)] [.fz], none, some .bool⟩,
  ⟨(some 114), .mov (.t 113), none, some .bool⟩,
  ⟨(some 115), .mov (.t 7), (some (114, true)), none⟩,
  ⟨(some 116), .fadr 0 (.t 11), (some (114, true)), none⟩,
  ⟨(some 117), .load 1 false (.t 116), (some (114, true)), some (.int .i64)⟩,
  ⟨(some 118), .fadr 1 (.t 11), (some (114, true)), none⟩,
  ⟨(some 119), .load 1 false (.t 118), (some (114, true)), some (.int .i64)⟩,
  ⟨(some 120), .call N_level_Lattice_Leq [((.t 115), .fz), ((.t 117), .fz), ((.t 119), .fz)] [.fz], (some (114, true)), some .bool⟩,
  ⟨(some 121), .pick (.t 114) (.t 120) (.c (.fz (.bool false))), none, some .bool⟩,
  ⟨(some 122), .mov (.t 121), none, some .bool⟩,
  ⟨(some 123), .call N_law09_lives [] [.fz], (some (122, true)), some .bool⟩,
  ⟨(some 124), .pick (.t 122) (.t 123) (.c (.fz (.bool false))), none, some .bool⟩,
  ⟨(some 6), .mov (.t 124), none, some .bool⟩])
 (.ret)
def A_law09_NodeRaises_j2 : ACode := .seq (.seq (.region [⟨(some 12), .mov (.c (.fz (.int .i64 0))), none, some (.int .i64)⟩])
  (.block 0 (.loop [4, 7, 9, 11, 12] [6, 7, 9, 11] A_law09_NodeRaises_b1)))
 A_law09_NodeRaises_s1
def A_law09_NodeRaises_j3 : ACode := .seq (.draws [⟨⟨(some 32), .iadr (.arr 2 1 false) (.t 5) (.c (.fz (.int .i64 0))), none, none⟩, []⟩,
  ⟨⟨(some 33), .load 1 false (.t 32), none, some (.int .i64)⟩, [0]⟩,
  ⟨⟨(some 34), .mov (.t 8), none, none⟩, []⟩,
  ⟨⟨(some 35), .len (.sl 1 false) (.t 34), none, some (.int .i64)⟩, [2]⟩,
  ⟨⟨(some 36), .binI .rem .i64 (.t 33) (.t 35), none, some (.int .i64)⟩, [1, 3]⟩,
  ⟨⟨(some 37), .mov (.t 8), none, none⟩, []⟩,
  ⟨⟨(some 38), .len (.sl 1 false) (.t 37), none, some (.int .i64)⟩, [5]⟩,
  ⟨⟨(some 39), .binI .add .i64 (.t 36) (.t 38), none, some (.int .i64)⟩, [4, 6]⟩,
  ⟨⟨(some 40), .mov (.t 8), none, none⟩, []⟩,
  ⟨⟨(some 41), .len (.sl 1 false) (.t 40), none, some (.int .i64)⟩, [8]⟩,
  ⟨⟨(some 42), .binI .rem .i64 (.t 39) (.t 41), none, some (.int .i64)⟩, [7, 9]⟩,
  ⟨⟨(some 43), .iadr (.arr 2 1 false) (.t 5) (.c (.fz (.int .i64 1))), none, none⟩, []⟩,
  ⟨⟨(some 44), .load 1 false (.t 43), none, some (.int .i64)⟩, [11]⟩,
  ⟨⟨(some 45), .mov (.t 8), none, none⟩, []⟩,
  ⟨⟨(some 46), .len (.sl 1 false) (.t 45), none, some (.int .i64)⟩, [13]⟩,
  ⟨⟨(some 47), .binI .rem .i64 (.t 44) (.t 46), none, some (.int .i64)⟩, [12, 14]⟩,
  ⟨⟨(some 48), .mov (.t 8), none, none⟩, []⟩,
  ⟨⟨(some 49), .len (.sl 1 false) (.t 48), none, some (.int .i64)⟩, [16]⟩,
  ⟨⟨(some 50), .binI .add .i64 (.t 47) (.t 49), none, some (.int .i64)⟩, [15, 17]⟩,
  ⟨⟨(some 51), .mov (.t 8), none, none⟩, []⟩,
  ⟨⟨(some 52), .len (.sl 1 false) (.t 51), none, some (.int .i64)⟩, [19]⟩,
  ⟨⟨(some 53), .binI .rem .i64 (.t 50) (.t 52), none, some (.int .i64)⟩, [18, 20]⟩,
  ⟨⟨(some 9), .mov (.t 42), none, some (.int .i64)⟩, [10, 0, 1, 2, 3, 4, 5, 6, 7, 8, 9, 10]⟩,
  ⟨⟨(some 10), .mov (.t 53), none, some (.int .i64)⟩, [21, 22, 0, 1, 2, 3, 4, 5, 6, 7, 8, 9, 10, 11, 12, 13, 14, 15, 16, 17, 18, 19, 20, 21, 22]⟩])
 (.seq (.region [⟨(some 54), .mov (.t 7), none, none⟩,
   ⟨(some 55), .mov (.t 7), none, none⟩,
   ⟨(some 56), .load 8 true (.t 4), none, none⟩,
   ⟨(some 57), .mov (.t 9), none, some (.int .i64)⟩,
   ⟨(some 58), .call N_node_Raise [((.t 55), .fz), ((.t 56), .fz), ((.t 57), .fz)] [.fz], none, none⟩,
   ⟨(some 59), .mov (.t 10), none, some (.int .i64)⟩,
   ⟨(some 60), .call N_node_Raise [((.t 54), .fz), ((.t 58), .fz), ((.t 59), .fz)] [.fz], none, none⟩,
   ⟨(some 11), .alloc 8 true (.ag [.fz (.int .i64 0), .fz (.int .i64 0), .fz (.int .i64 0), .fz (.int .i64 0), .fz (.int .i64 0), .fz (.str ⟨#[]⟩), .nils, .nils]), none, none⟩,
   ⟨none, .store 8 true (.t 11) (.t 60), none, none⟩])
  (.seq (.seq (.draws [⟨⟨(some 61), .load 8 true (.t 11), none, none⟩, []⟩,
     ⟨⟨(some 62), .mov (.t 7), none, none⟩, []⟩,
     ⟨⟨(some 63), .load 8 true (.t 4), none, none⟩, []⟩,
     ⟨⟨(some 64), .mov (.t 7), none, none⟩, []⟩,
     ⟨⟨(some 65), .mov (.t 9), none, some (.int .i64)⟩, []⟩,
     ⟨⟨(some 66), .mov (.t 10), none, some (.int .i64)⟩, []⟩,
     ⟨⟨(some 67), .call N_level_Lattice_Join [((.t 64), .fz), ((.t 65), .fz), ((.t 66), .fz)] [.fz], none, some (.int .i64)⟩, [3, 4, 5]⟩,
     ⟨⟨(some 68), .call N_node_Raise [((.t 62), .fz), ((.t 63), .fz), ((.t 67), .fz)] [.fz], none, none⟩, [1, 2, 6, 6]⟩,
     ⟨⟨(some 69), .call N_node_Same [((.t 61), .fz), ((.t 68), .fz)] [.fz], none, some .bool⟩, [0, 7, 7]⟩,
     ⟨⟨(some 70), .notB (.t 69), none, some .bool⟩, [8]⟩,
     ⟨⟨(some 71), .mov (.t 70), none, some .bool⟩, [9, 8]⟩,
     ⟨⟨(some 72), .mov (.t 7), (some (71, false)), none⟩, [10]⟩,
     ⟨⟨(some 73), .load 8 true (.t 4), (some (71, false)), none⟩, [10]⟩,
     ⟨⟨(some 74), .mov (.t 7), (some (71, false)), none⟩, [10]⟩,
     ⟨⟨(some 75), .call N_level_Lattice_Bottom [((.t 74), .fz)] [.fz], (some (71, false)), some (.int .i64)⟩, [13, 10, 10]⟩,
     ⟨⟨(some 76), .call N_node_Raise [((.t 72), .fz), ((.t 73), .fz), ((.t 75), .fz)] [.fz], (some (71, false)), none⟩, [11, 12, 14, 14, 10]⟩,
     ⟨⟨(some 77), .load 8 true (.t 4), (some (71, false)), none⟩, [10]⟩,
     ⟨⟨(some 78), .call N_node_Same [((.t 76), .fz), ((.t 77), .fz)] [.fz], (some (71, false)), some .bool⟩, [15, 16, 15, 10]⟩,
     ⟨⟨(some 79), .notB (.t 78), (some (71, false)), some .bool⟩, [17, 10]⟩,
     ⟨⟨(some 80), .pick (.t 71) (.c (.fz (.bool true))) (.t 79), none, some .bool⟩, [10, 18]⟩,
     ⟨⟨(some 81), .mov (.t 80), none, some .bool⟩, [19, 17]⟩,
     ⟨⟨(some 82), .fadr 6 (.t 11), (some (81, false)), none⟩, [20]⟩,
     ⟨⟨(some 83), .load 1 false (.t 82), (some (81, false)), none⟩, [21, 20]⟩,
     ⟨⟨(some 84), .len (.sl 8 true) (.t 83), (some (81, false)), some (.int .i64)⟩, [22, 20]⟩,
     ⟨⟨(some 85), .fadr 6 (.t 4), (some (81, false)), none⟩, [20]⟩,
     ⟨⟨(some 86), .load 1 false (.t 85), (some (81, false)), none⟩, [24, 20]⟩,
     ⟨⟨(some 87), .len (.sl 8 true) (.t 86), (some (81, false)), some (.int .i64)⟩, [25, 20]⟩,
     ⟨⟨(some 88), .binI .neq .i64 (.t 84) (.t 87), (some (81, false)), some .bool⟩, [23, 26, 20]⟩,
     ⟨⟨(some 89), .pick (.t 81) (.c (.fz (.bool true))) (.t 88), none, some .bool⟩, [20, 27]⟩])
    (.cond (.t 89) (.seq (.region [⟨(some 6), .mov (.c (.fz (.bool false))), none, some .bool⟩])
      (.ret))
     (.skip)))
   (.trim [4, 7, 9, 11] A_law09_NodeRaises_j2)))
def A_law09_NodeRaises : AFunc := ⟨3, [(.tmp 6, .fz)], .seq (.region [⟨(some 4), .box 8 true (.t 1), none, none⟩,
  ⟨(some 5), .box 2 true (.t 2), none, none⟩,
  ⟨(some 6), .mov (.c (.fz (.bool false))), none, some .bool⟩])
 (.seq (.region [⟨(some 14), .mov (.t 0), none, some (.int .i64)⟩,
   ⟨(some 15), .call N_law09_of [((.t 14), .fz)] [.fz, .fz], none, none⟩,
   ⟨(some 13), .mov (.t 15), none, none⟩,
   ⟨(some 16), .extract (.t 13) 0, none, none⟩,
   ⟨(some 17), .extract (.t 13) 1, none, none⟩,
   ⟨(some 7), .mov (.t 16), none, none⟩,
   ⟨(some 8), .mov (.t 17), none, none⟩])
  (.seq (.seq (.region [⟨(some 18), .load 8 true (.t 4), none, none⟩,
     ⟨(some 19), .call N_ref09_Light [((.t 18), .fz), ((.c (.fz (.int .i64 200))), .fz)] [.fz], none, some .bool⟩,
     ⟨(some 20), .notB (.t 19), none, some .bool⟩,
     ⟨(some 21), .mov (.t 20), none, some .bool⟩,
     ⟨(some 22), .mov (.t 8), (some (21, false)), none⟩,
     ⟨(some 23), .load 8 true (.t 4), (some (21, false)), none⟩,
     ⟨(some 24), .call N_ref09_Is [((.t 22), .fz), ((.t 23), .fz)] [.fz], (some (21, false)), some .bool⟩,
     ⟨(some 25), .notB (.t 24), (some (21, false)), some .bool⟩,
     ⟨(some 26), .pick (.t 21) (.c (.fz (.bool true))) (.t 25), none, some .bool⟩,
     ⟨(some 27), .mov (.t 26), none, some .bool⟩,
     ⟨(some 28), .mov (.t 7), (some (27, false)), none⟩,
     ⟨(some 29), .eqNil false (.t 28), (some (27, false)), some .bool⟩,
     ⟨(some 30), .pick (.t 27) (.c (.fz (.bool true))) (.t 29), none, some .bool⟩])
    (.cond (.t 30) (.seq (.region [⟨(some 31), .call N_law09_lives [] [.fz], none, some .bool⟩,
       ⟨(some 6), .mov (.t 31), none, some .bool⟩])
      (.ret))
     (.skip)))
   (.trim [4, 5, 7, 8] A_law09_NodeRaises_j3)))⟩
def J_law09_NodeRaises_3_0 (R : Orc) (k : Nat) (w : Bool) (x7 : FV) (x8 : FV) (h4096_0 : Int) (h4096_1 : Int) (h4096_2 : Int) (h4096_3 : Int) (h4096_4 : Int) (h4096_5 : ByteArray) (h4096_6 : List FV) (h4096_7 : List FV) (h4097_0 : Int) (h4097_1 : Int) := execL R k w [] A_law09_NodeRaises_j3 Ans ⟨[(4, .ptr 4096 0 0), (5, .ptr 4097 0 0), (7, .fz x7), (8, .fz x8)], [(4095, .dead), (4096, .var 8 true (.fz (FV.ag [(FV.int .i64 h4096_0), (FV.int .i64 h4096_1), (FV.int .i64 h4096_2), (FV.int .i64 h4096_3), (FV.int .i64 h4096_4), (FV.str h4096_5), (FV.sl h4096_6), (FV.sl h4096_7)]))), (4097, .var 2 true (.fz (FV.ag [(FV.int .i64 h4097_0), (FV.int .i64 h4097_1)])))]⟩ (kFin R [(.tmp 6, .fz)] [])
def J_law09_NodeRaises_2_0 (R : Orc) (k : Nat) (w : Bool) (x7 : FV) (x9 : Int) (h4096_0 : Int) (h4096_1 : Int) (h4096_2 : Int) (h4096_3 : Int) (h4096_4 : Int) (h4096_5 : ByteArray) (h4096_6 : List FV) (h4096_7 : List FV) (h4097 : FV) := execL R k w [] A_law09_NodeRaises_j2 Ans ⟨[(4, .ptr 4096 0 0), (7, .fz x7), (9, .fz (FV.int .i64 x9)), (11, .ptr 4097 0 0)], [(4095, .dead), (4096, .var 8 true (.fz (FV.ag [(FV.int .i64 h4096_0), (FV.int .i64 h4096_1), (FV.int .i64 h4096_2), (FV.int .i64 h4096_3), (FV.int .i64 h4096_4), (FV.str h4096_5), (FV.sl h4096_6), (FV.sl h4096_7)]))), (4097, .var 8 true (.fz h4097))]⟩ (kFin R [(.tmp 6, .fz)] [])
def K_law09_NodeRaises_1 (R : Orc) (k : Nat) (w : Bool) : AExit → St → Option Ans := (kBlk 0 (kSeq R k w [] A_law09_NodeRaises_s1 (kFin R [(.tmp 6, .fz)] [])))
def L_law09_NodeRaises_1_0 (R : Orc) (k : Nat) (w : Bool) (n : Nat) (x7 : FV) (x9 : Int) (x12 : Int) (h4096_0 : Int) (h4096_1 : Int) (h4096_2 : Int) (h4096_3 : Int) (h4096_4 : Int) (h4096_5 : ByteArray) (h4096_6 : List FV) (h4096_7 : List FV) (h4097 : FV) := loopL R k w [] [4, 7, 9, 11, 12] [6, 7, 9, 11] A_law09_NodeRaises_b1 n ⟨[(4, .ptr 4096 0 0), (7, .fz x7), (9, .fz (FV.int .i64 x9)), (11, .ptr 4097 0 0), (12, .fz (FV.int .i64 x12))], [(4095, .dead), (4096, .var 8 true (.fz (FV.ag [(FV.int .i64 h4096_0), (FV.int .i64 h4096_1), (FV.int .i64 h4096_2), (FV.int .i64 h4096_3), (FV.int .i64 h4096_4), (FV.str h4096_5), (FV.sl h4096_6), (FV.sl h4096_7)]))), (4097, .var 8 true (.fz h4097))]⟩
def X_law09_NodeRaises_1_0 (x6 : Bool) (x7 : FV) (x9 : Int) (h4096 : FV) : St := ⟨[(6, .fz (FV.bool x6)), (7, .fz x7), (9, .fz (FV.int .i64 x9)), (11, .ptr 4096 0 0)], [(4095, .dead), (4096, .var 8 true (.fz h4096))]⟩
def X_law09_NodeRaises_1_1 (x7 : FV) (x9 : Int) (h4096 : FV) : St := ⟨[(7, .fz x7), (9, .fz (FV.int .i64 x9)), (11, .ptr 4096 0 0)], [(4095, .dead), (4096, .var 8 true (.fz h4096))]⟩
theorem E_law09_NodeRaises (R : Orc) (k : Nat) (w : Bool) (a0 : Int) (a1_0 : Int) (a1_1 : Int) (a1_2 : Int) (a1_3_0 : Int) (a1_3_1 : Int) (a1_4 : ByteArray) (a1_5 : List FV) (a1_6 : List FV) (a2_0 : Int) (a2_1 : Int) : callL R k w A_law09_NodeRaises [.fz (FV.int .i64 a0), .fz (FV.ag [(FV.int .i64 a1_0), (FV.int .i64 a1_1), (FV.int .i64 a1_2), (FV.int .i64 a1_3_0), (FV.int .i64 a1_3_1), (FV.str a1_4), (FV.sl a1_5), (FV.sl a1_6)]), .fz (FV.ag [(FV.int .i64 a2_0), (FV.int .i64 a2_1)])] = onR (R N_law09_of [.fz (FV.int .i64 a0)]) fun r0 => when (List.isEmpty r0.2 && allF [.fz, .fz] r0.1) (onR (R N_ref09_Light [.fz (FV.ag [(FV.int .i64 a1_0), (FV.int .i64 a1_1), (FV.int .i64 a1_2), (FV.int .i64 a1_3_0), (FV.int .i64 a1_3_1), (FV.str a1_4), (FV.sl a1_5), (FV.sl a1_6)]), .fz (FV.int .i64 200)]) fun r1 => when (List.isEmpty r1.2 && allF [.fz] r1.1) (when (FV.isBool (TV.toF (List.getD r1.1 0 TV.em))) (ifB (!(FV.toBool (TV.toF (List.getD r1.1 0 TV.em))))
  (onR (R N_law09_lives []) fun r2 => when (List.isEmpty r2.2 && allF [.fz] r2.1) (when (FV.isBool (TV.toF (List.getD r2.1 0 TV.em))) (some ([.fz (FV.bool (FV.toBool (TV.toF (List.getD r2.1 0 TV.em))))], []))))
  (onR (R N_ref09_Is [.fz (TV.toF (List.getD r0.1 1 TV.em)), .fz (FV.ag [(FV.int .i64 a1_0), (FV.int .i64 a1_1), (FV.int .i64 a1_2), (FV.int .i64 a1_3_0), (FV.int .i64 a1_3_1), (FV.str a1_4), (FV.sl a1_5), (FV.sl a1_6)])]) fun r3 => when (List.isEmpty r3.2 && allF [.fz] r3.1) (when (FV.isBool (TV.toF (List.getD r3.1 0 TV.em))) (ifB (!(FV.toBool (TV.toF (List.getD r3.1 0 TV.em))))
   (onR (R N_law09_lives []) fun r4 => when (List.isEmpty r4.2 && allF [.fz] r4.1) (when (FV.isBool (TV.toF (List.getD r4.1 0 TV.em))) (some ([.fz (FV.bool (FV.toBool (TV.toF (List.getD r4.1 0 TV.em))))], []))))
   (when (FV.isPt (TV.toF (List.getD r0.1 0 TV.em)) || FV.isNil (TV.toF (List.getD r0.1 0 TV.em))) (ifB (FV.isNil (TV.toF (List.getD r0.1 0 TV.em)))
    (onR (R N_law09_lives []) fun r5 => when (List.isEmpty r5.2 && allF [.fz] r5.1) (when (FV.isBool (TV.toF (List.getD r5.1 0 TV.em))) (some ([.fz (FV.bool (FV.toBool (TV.toF (List.getD r5.1 0 TV.em))))], []))))
    (jump w (J_law09_NodeRaises_3_0 R k w (TV.toF (List.getD r0.1 0 TV.em)) (TV.toF (List.getD r0.1 1 TV.em)) a1_0 a1_1 a1_2 a1_3_0 a1_3_1 a1_4 a1_5 a1_6 a2_0 a2_1)))))))))) := by kernel_rfl
theorem J_law09_NodeRaises_3_0_eq (R : Orc) (k : Nat) (w : Bool) (x7 : FV) (x8 : FV) (h4096_0 : Int) (h4096_1 : Int) (h4096_2 : Int) (h4096_3 : Int) (h4096_4 : Int) (h4096_5 : ByteArray) (h4096_6 : List FV) (h4096_7 : List FV) (h4097_0 : Int) (h4097_1 : Int) : J_law09_NodeRaises_3_0 R k w x7 x8 h4096_0 h4096_1 h4096_2 h4096_3 h4096_4 h4096_5 h4096_6 h4096_7 h4097_0 h4097_1 = when (FV.isSl x8) (when (!decide ((List.length (FV.toSl x8) : Int) = 0)) (when (FV.isSl x8) (when (FV.isSl x8) (when (!decide ((List.length (FV.toSl x8) : Int) = 0)) (when (FV.isSl x8) (when (!decide ((List.length (FV.toSl x8) : Int) = 0)) (when (FV.isSl x8) (when (FV.isSl x8) (when (!decide ((List.length (FV.toSl x8) : Int) = 0)) (onR (R N_node_Raise [.fz x7, .fz (FV.ag [(FV.int .i64 h4096_0), (FV.int .i64 h4096_1), (FV.int .i64 h4096_2), (FV.int .i64 h4096_3), (FV.int .i64 h4096_4), (FV.str h4096_5), (FV.sl h4096_6), (FV.sl h4096_7)]), .fz (FV.int .i64 (Int.tmod (IntKind.wrap .i64 ((Int.tmod h4097_0 (List.length (FV.toSl x8) : Int)) + (List.length (FV.toSl x8) : Int))) (List.length (FV.toSl x8) : Int)))]) fun r6 => when (List.isEmpty r6.2 && allF [.fz] r6.1) (onR (R N_node_Raise [.fz x7, .fz (TV.toF (List.getD r6.1 0 TV.em)), .fz (FV.int .i64 (Int.tmod (IntKind.wrap .i64 ((Int.tmod h4097_1 (List.length (FV.toSl x8) : Int)) + (List.length (FV.toSl x8) : Int))) (List.length (FV.toSl x8) : Int)))]) fun r7 => when (List.isEmpty r7.2 && allF [.fz] r7.1) (when (FV.fits 8 true (TV.toF (List.getD r7.1 0 TV.em))) (onR (R N_level_Lattice_Join [.fz x7, .fz (FV.int .i64 (Int.tmod (IntKind.wrap .i64 ((Int.tmod h4097_0 (List.length (FV.toSl x8) : Int)) + (List.length (FV.toSl x8) : Int))) (List.length (FV.toSl x8) : Int))), .fz (FV.int .i64 (Int.tmod (IntKind.wrap .i64 ((Int.tmod h4097_1 (List.length (FV.toSl x8) : Int)) + (List.length (FV.toSl x8) : Int))) (List.length (FV.toSl x8) : Int)))]) fun r8 => when (List.isEmpty r8.2 && allF [.fz] r8.1) (when (FV.isInt .i64 (TV.toF (List.getD r8.1 0 TV.em))) (onR (R N_node_Raise [.fz x7, .fz (FV.ag [(FV.int .i64 h4096_0), (FV.int .i64 h4096_1), (FV.int .i64 h4096_2), (FV.int .i64 h4096_3), (FV.int .i64 h4096_4), (FV.str h4096_5), (FV.sl h4096_6), (FV.sl h4096_7)]), .fz (FV.int .i64 (FV.toInt (TV.toF (List.getD r8.1 0 TV.em))))]) fun r9 => when (List.isEmpty r9.2 && allF [.fz] r9.1) (onR (R N_node_Same [.fz (TV.toF (List.getD r7.1 0 TV.em)), .fz (TV.toF (List.getD r9.1 0 TV.em))]) fun r10 => when (List.isEmpty r10.2 && allF [.fz] r10.1) (when (FV.isBool (TV.toF (List.getD r10.1 0 TV.em))) (ifB (!(FV.toBool (TV.toF (List.getD r10.1 0 TV.em))))
  (some ([.fz (FV.bool false)], []))
  (onR (R N_level_Lattice_Bottom [.fz x7]) fun r11 => when (List.isEmpty r11.2 && allF [.fz] r11.1) (when (FV.isInt .i64 (TV.toF (List.getD r11.1 0 TV.em))) (onR (R N_node_Raise [.fz x7, .fz (FV.ag [(FV.int .i64 h4096_0), (FV.int .i64 h4096_1), (FV.int .i64 h4096_2), (FV.int .i64 h4096_3), (FV.int .i64 h4096_4), (FV.str h4096_5), (FV.sl h4096_6), (FV.sl h4096_7)]), .fz (FV.int .i64 (FV.toInt (TV.toF (List.getD r11.1 0 TV.em))))]) fun r12 => when (List.isEmpty r12.2 && allF [.fz] r12.1) (onR (R N_node_Same [.fz (TV.toF (List.getD r12.1 0 TV.em)), .fz (FV.ag [(FV.int .i64 h4096_0), (FV.int .i64 h4096_1), (FV.int .i64 h4096_2), (FV.int .i64 h4096_3), (FV.int .i64 h4096_4), (FV.str h4096_5), (FV.sl h4096_6), (FV.sl h4096_7)])]) fun r13 => when (List.isEmpty r13.2 && allF [.fz] r13.1) (when (FV.isBool (TV.toF (List.getD r13.1 0 TV.em))) (ifB (!(FV.toBool (TV.toF (List.getD r13.1 0 TV.em))))
   (some ([.fz (FV.bool false)], []))
   (when (FV.isAg 8 (TV.toF (List.getD r7.1 0 TV.em))) (when (FV.isSl (FV.cell (TV.toF (List.getD r7.1 0 TV.em)) 6)) (ifB ((List.length (FV.toSl (FV.cell (TV.toF (List.getD r7.1 0 TV.em)) 6)) : Int) != (List.length h4096_6 : Int))
    (some ([.fz (FV.bool false)], []))
    (jump w (J_law09_NodeRaises_2_0 R k w x7 (Int.tmod (IntKind.wrap .i64 ((Int.tmod h4097_0 (List.length (FV.toSl x8) : Int)) + (List.length (FV.toSl x8) : Int))) (List.length (FV.toSl x8) : Int)) h4096_0 h4096_1 h4096_2 h4096_3 h4096_4 h4096_5 h4096_6 h4096_7 (TV.toF (List.getD r7.1 0 TV.em))))))))))))))))))))))))))))))) := by kernel_rfl
theorem J_law09_NodeRaises_2_0_eq (R : Orc) (k : Nat) (w : Bool) (x7 : FV) (x9 : Int) (h4096_0 : Int) (h4096_1 : Int) (h4096_2 : Int) (h4096_3 : Int) (h4096_4 : Int) (h4096_5 : ByteArray) (h4096_6 : List FV) (h4096_7 : List FV) (h4097 : FV) : J_law09_NodeRaises_2_0 R k w x7 x9 h4096_0 h4096_1 h4096_2 h4096_3 h4096_4 h4096_5 h4096_6 h4096_7 h4097 = onL (L_law09_NodeRaises_1_0 R k w k x7 x9 0 h4096_0 h4096_1 h4096_2 h4096_3 h4096_4 h4096_5 h4096_6 h4096_7 h4097) (K_law09_NodeRaises_1 R k w) := by kernel_rfl
theorem L_law09_NodeRaises_1_0_eq (R : Orc) (k : Nat) (w : Bool) (n : Nat) (x7 : FV) (x9 : Int) (x12 : Int) (h4096_0 : Int) (h4096_1 : Int) (h4096_2 : Int) (h4096_3 : Int) (h4096_4 : Int) (h4096_5 : ByteArray) (h4096_6 : List FV) (h4096_7 : List FV) (h4097 : FV) : L_law09_NodeRaises_1_0 R k w (n + 1) x7 x9 x12 h4096_0 h4096_1 h4096_2 h4096_3 h4096_4 h4096_5 h4096_6 h4096_7 h4097 = when (FV.isAg 8 h4097) (when (FV.isSl (FV.cell h4097 6)) (ifB (decide (x12 < (List.length (FV.toSl (FV.cell h4097 6)) : Int)))
  (when (FV.isAg 8 h4097) (when (FV.isSl (FV.cell h4097 6)) (when ((decide (0 ≤ x12)) && (decide (x12 < (List.length (FV.toSl (FV.cell h4097 6)) : Int)))) (when (FV.fits 8 true (List.getD (FV.toSl (FV.cell h4097 6)) (Int.toNat x12) FV.nilp)) (when ((decide (0 ≤ x12)) && (decide (x12 < (List.length h4096_6 : Int)))) (when (FV.fits 8 true (List.getD h4096_6 (Int.toNat x12) FV.nilp)) (onR (R N_node_Same [.fz (List.getD (FV.toSl (FV.cell h4097 6)) (Int.toNat x12) FV.nilp), .fz (List.getD h4096_6 (Int.toNat x12) FV.nilp)]) fun r14 => when (List.isEmpty r14.2 && allF [.fz] r14.1) (when (FV.isBool (TV.toF (List.getD r14.1 0 TV.em))) (ifB (!(FV.toBool (TV.toF (List.getD r14.1 0 TV.em))))
   (some (.ret, X_law09_NodeRaises_1_0 false x7 x9 h4097))
   (L_law09_NodeRaises_1_0 R k w n x7 x9 (IntKind.wrap .i64 (x12 + 1)) h4096_0 h4096_1 h4096_2 h4096_3 h4096_4 h4096_5 h4096_6 h4096_7 h4097))))))))))
  (some ((.exit 0), X_law09_NodeRaises_1_1 x7 x9 h4097)))) := by kernel_rfl
theorem X_law09_NodeRaises_1_0_eq (R : Orc) (k : Nat) (w : Bool) (x6 : Bool) (x7 : FV) (x9 : Int) (h4096 : FV) : K_law09_NodeRaises_1 R k w .ret (X_law09_NodeRaises_1_0 x6 x7 x9 h4096) = some ([.fz (FV.bool x6)], []) := by kernel_rfl
theorem X_law09_NodeRaises_1_1_eq (R : Orc) (k : Nat) (w : Bool) (x7 : FV) (x9 : Int) (h4096 : FV) : K_law09_NodeRaises_1 R k w (.exit 0) (X_law09_NodeRaises_1_1 x7 x9 h4096) = when (FV.isAg 8 h4096) (when (FV.isInt .i64 (FV.cell h4096 0)) (onR (R N_level_Lattice_Leq [.fz x7, .fz (FV.int .i64 x9), .fz (FV.int .i64 (FV.toInt (FV.cell h4096 0)))]) fun r15 => when (List.isEmpty r15.2 && allF [.fz] r15.1) (when (FV.isBool (TV.toF (List.getD r15.1 0 TV.em))) (ifB (FV.toBool (TV.toF (List.getD r15.1 0 TV.em)))
  (when (FV.isAg 8 h4096) (when (FV.isInt .i64 (FV.cell h4096 0)) (when (FV.isAg 8 h4096) (when (FV.isInt .i64 (FV.cell h4096 1)) (onR (R N_level_Lattice_Leq [.fz x7, .fz (FV.int .i64 (FV.toInt (FV.cell h4096 0))), .fz (FV.int .i64 (FV.toInt (FV.cell h4096 1)))]) fun r16 => when (List.isEmpty r16.2 && allF [.fz] r16.1) (when (FV.isBool (TV.toF (List.getD r16.1 0 TV.em))) (ifB (FV.toBool (TV.toF (List.getD r16.1 0 TV.em)))
   (onR (R N_law09_lives []) fun r17 => when (List.isEmpty r17.2 && allF [.fz] r17.1) (when (FV.isBool (TV.toF (List.getD r17.1 0 TV.em))) (some ([.fz (FV.bool (FV.toBool (TV.toF (List.getD r17.1 0 TV.em))))], []))))
   (some ([.fz (FV.bool false)], [])))))))))
  (some ([.fz (FV.bool false)], [])))))) := by kernel_rfl
/-! keyhole/keyholelaw09.NodeCounts -/
def A_law09_NodeCounts_j1 : ACode := .seq (.block 1 (.seq (.draws [⟨⟨(some 51), .mov (.t 2), none, none⟩, []⟩,
    ⟨⟨(some 52), .mov (.t 12), none, some (.int .i64)⟩, []⟩,
    ⟨⟨(some 53), .iadr (.sl 1 false) (.t 51) (.t 52), none, none⟩, [0, 1]⟩,
    ⟨⟨(some 54), .load 1 false (.t 53), none, some (.int .i64)⟩, [2]⟩,
    ⟨⟨(some 55), .fadr 6 (.t 10), none, none⟩, []⟩,
    ⟨⟨(some 56), .load 1 false (.t 55), none, none⟩, [4]⟩,
    ⟨⟨(some 57), .len (.sl 8 true) (.t 56), none, some (.int .i64)⟩, [5]⟩,
    ⟨⟨(some 58), .binI .rem .i64 (.t 54) (.t 57), none, some (.int .i64)⟩, [3, 6]⟩,
    ⟨⟨(some 59), .fadr 6 (.t 10), none, none⟩, []⟩,
    ⟨⟨(some 60), .load 1 false (.t 59), none, none⟩, [8]⟩,
    ⟨⟨(some 61), .len (.sl 8 true) (.t 60), none, some (.int .i64)⟩, [9]⟩,
    ⟨⟨(some 62), .binI .add .i64 (.t 58) (.t 61), none, some (.int .i64)⟩, [7, 10]⟩,
    ⟨⟨(some 63), .fadr 6 (.t 10), none, none⟩, []⟩,
    ⟨⟨(some 64), .load 1 false (.t 63), none, none⟩, [12]⟩,
    ⟨⟨(some 65), .len (.sl 8 true) (.t 64), none, some (.int .i64)⟩, [13]⟩,
    ⟨⟨(some 66), .binI .rem .i64 (.t 62) (.t 65), none, some (.int .i64)⟩, [11, 14]⟩,
    ⟨⟨(some 13), .mov (.t 66), none, some (.int .i64)⟩, [15, 0, 1, 2, 3, 4, 5, 6, 7, 8, 9, 10, 11, 12, 13, 14, 15]⟩])
   (.seq (.region [⟨(some 68), .mov (.t 7), none, none⟩,
     ⟨(some 69), .load 8 true (.t 9), none, none⟩,
     ⟨(some 70), .mov (.t 13), none, some (.int .i64)⟩,
     ⟨(some 71), .call N_node_Item [((.t 68), .fz), ((.t 69), .fz), ((.t 70), .fz)] [.fz, .fz], none, none⟩,
     ⟨(some 67), .mov (.t 71), none, none⟩,
     ⟨(some 72), .extract (.t 67) 0, none, none⟩,
     ⟨(some 73), .extract (.t 67) 1, none, some .bool⟩,
     ⟨(some 14), .alloc 8 true (.ag [.fz (.int .i64 0), .fz (.int .i64 0), .fz (.int .i64 0), .fz (.int .i64 0), .fz (.int .i64 0), .fz (.str ⟨#[]⟩), .nils, .nils]), none, none⟩,
     ⟨none, .store 8 true (.t 14) (.t 72), none, none⟩,
     ⟨(some 15), .mov (.t 73), none, some .bool⟩])
    (.seq (.region [⟨(some 74), .fadr 6 (.t 10), none, none⟩,
      ⟨(some 75), .load 1 false (.t 74), none, none⟩,
      ⟨(some 76), .mov (.t 13), none, some (.int .i64)⟩,
      ⟨(some 77), .iadr (.sl 8 true) (.t 75) (.t 76), none, none⟩,
      ⟨(some 78), .load 8 true (.t 77), none, none⟩,
      ⟨none, .store 8 true (.t 10) (.t 78), none, none⟩])
     (.seq (.region [⟨(some 79), .mov (.t 8), none, none⟩,
       ⟨(some 80), .mov (.t 11), none, some (.int .i64)⟩,
       ⟨(some 81), .fadr 0 (.t 10), none, none⟩,
       ⟨(some 82), .load 1 false (.t 81), none, some (.int .i64)⟩,
       ⟨(some 83), .call N_ref09_Join [((.t 79), .fz), ((.t 80), .fz), ((.t 82), .fz)] [.fz], none, some (.int .i64)⟩,
       ⟨(some 11), .mov (.t 83), none, some (.int .i64)⟩])
      (.seq (.seq (.draws [⟨⟨(some 84), .mov (.t 15), none, some .bool⟩, []⟩,
         ⟨⟨(some 85), .notB (.t 84), none, some .bool⟩, [0]⟩,
         ⟨⟨(some 86), .mov (.t 85), none, some .bool⟩, [1]⟩,
         ⟨⟨(some 87), .fadr 0 (.t 14), (some (86, false)), none⟩, [2]⟩,
         ⟨⟨(some 88), .load 1 false (.t 87), (some (86, false)), some (.int .i64)⟩, [3, 2]⟩,
         ⟨⟨(some 89), .mov (.t 11), (some (86, false)), some (.int .i64)⟩, [2]⟩,
         ⟨⟨(some 90), .binI .neq .i64 (.t 88) (.t 89), (some (86, false)), some .bool⟩, [4, 5, 2]⟩,
         ⟨⟨(some 91), .pick (.t 86) (.c (.fz (.bool true))) (.t 90), none, some .bool⟩, [2, 6]⟩,
         ⟨⟨(some 92), .mov (.t 91), none, some .bool⟩, [7, 2]⟩,
         ⟨⟨(some 93), .fadr 1 (.t 14), (some (92, false)), none⟩, [8]⟩,
         ⟨⟨(some 94), .load 1 false (.t 93), (some (92, false)), some (.int .i64)⟩, [9, 8]⟩,
         ⟨⟨(some 95), .mov (.t 8), (some (92, false)), none⟩, [8]⟩,
         ⟨⟨(some 96), .mov (.t 11), (some (92, false)), some (.int .i64)⟩, [8]⟩,
         ⟨⟨(some 97), .fadr 1 (.t 10), (some (92, false)), none⟩, [8]⟩,
         ⟨⟨(some 98), .load 1 false (.t 97), (some (92, false)), some (.int .i64)⟩, [13, 8]⟩,
         ⟨⟨(some 99), .call N_ref09_Join [((.t 95), .fz), ((.t 96), .fz), ((.t 98), .fz)] [.fz], (some (92, false)), some (.int .i64)⟩, [11, 12, 14, 8, 8]⟩,
         ⟨⟨(some 100), .binI .neq .i64 (.t 94) (.t 99), (some (92, false)), some .bool⟩, [10, 15, 8]⟩,
         ⟨⟨(some 101), .pick (.t 92) (.c (.fz (.bool true))) (.t 100), none, some .bool⟩, [8, 16]⟩,
         ⟨⟨(some 102), .mov (.t 101), none, some .bool⟩, [17, 15]⟩,
         ⟨⟨(some 103), .fadr 2 (.t 14), (some (102, false)), none⟩, [18]⟩,
         ⟨⟨(some 104), .load 1 false (.t 103), (some (102, false)), some (.int .i64)⟩, [19, 18]⟩,
         ⟨⟨(some 105), .fadr 2 (.t 10), (some (102, false)), none⟩, [18]⟩,
         ⟨⟨(some 106), .load 1 false (.t 105), (some (102, false)), some (.int .i64)⟩, [21, 18]⟩,
         ⟨⟨(some 107), .binI .neq .i64 (.t 104) (.t 106), (some (102, false)), some .bool⟩, [20, 22, 18]⟩,
         ⟨⟨(some 108), .pick (.t 102) (.c (.fz (.bool true))) (.t 107), none, some .bool⟩, [18, 23]⟩,
         ⟨⟨(some 109), .mov (.t 108), none, some .bool⟩, [24, 18]⟩,
         ⟨⟨(some 110), .mov (.t 7), (some (109, false)), none⟩, [25]⟩,
         ⟨⟨(some 111), .load 8 true (.t 14), (some (109, false)), none⟩, [25]⟩,
         ⟨⟨(some 112), .call N_node_Is [((.t 110), .fz), ((.t 111), .fz)] [.fz], (some (109, false)), some .bool⟩, [26, 27, 25, 25]⟩,
         ⟨⟨(some 113), .notB (.t 112), (some (109, false)), some .bool⟩, [28, 25]⟩,
         ⟨⟨(some 114), .pick (.t 109) (.c (.fz (.bool true))) (.t 113), none, some .bool⟩, [25, 29]⟩])
        (.cond (.t 114) (.seq (.region [⟨(some 6), .mov (.c (.fz (.bool false))), none, some .bool⟩])
          (.ret))
         (.skip)))
       (.region [⟨(some 115), .load 8 true (.t 14), none, none⟩,
        ⟨none, .store 8 true (.t 9) (.t 115), none, none⟩])))))))
 (.region [⟨(some 49), .mov (.t 12), none, some (.int .i64)⟩,
  ⟨(some 50), .binI .add .i64 (.t 49) (.c (.fz (.int .i64 1))), none, some (.int .i64)⟩,
  ⟨(some 12), .mov (.t 50), none, some (.int .i64)⟩])
def A_law09_NodeCounts_b1 : ACode := .seq (.seq (.region [⟨(some 39), .mov (.t 12), none, some (.int .i64)⟩,
   ⟨(some 40), .mov (.t 2), none, none⟩,
   ⟨(some 41), .len (.sl 1 false) (.t 40), none, some (.int .i64)⟩,
   ⟨(some 42), .binI .lss .i64 (.t 39) (.t 41), none, some .bool⟩,
   ⟨(some 43), .mov (.t 42), none, some .bool⟩,
   ⟨(some 44), .fadr 6 (.t 10), (some (43, true)), none⟩,
   ⟨(some 45), .load 1 false (.t 44), (some (43, true)), none⟩,
   ⟨(some 46), .len (.sl 8 true) (.t 45), (some (43, true)), some (.int .i64)⟩,
   ⟨(some 47), .binI .gtr .i64 (.t 46) (.c (.fz (.int .i64 0))), (some (43, true)), some .bool⟩,
   ⟨(some 48), .pick (.t 43) (.t 47) (.c (.fz (.bool false))), none, some .bool⟩])
  (.cond (.t 48) (.skip)
   (.exit 0)))
 (.trim [2, 7, 8, 9, 10, 11, 12] A_law09_NodeCounts_j1)
def A_law09_NodeCounts_s2 : ACode := .seq (.region [⟨(some 116), .mov (.t 7), none, none⟩,
  ⟨(some 117), .load 8 true (.t 9), none, none⟩,
  ⟨(some 118), .call N_node_Is [((.t 116), .fz), ((.t 117), .fz)] [.fz], none, some .bool⟩,
  ⟨(some 119), .mov (.t 118), none, some .bool⟩,
  ⟨(some 120), .call N_law09_lives [] [.fz], (some (119, true)), some .bool⟩,
  ⟨(some 121), .pick (.t 119) (.t 120) (.c (.fz (.bool false))), none, some .bool⟩,
  ⟨(some 6), .mov (.t 121), none, some .bool⟩])
 (.ret)
def A_law09_NodeCounts_j3 : ACode := .seq (.region [⟨(some 26), .mov (.t 0), none, some (.int .i64)⟩,
  ⟨(some 27), .call N_law09_of [((.t 26), .fz)] [.fz, .fz], none, none⟩,
  ⟨(some 25), .mov (.t 27), none, none⟩,
  ⟨(some 28), .extract (.t 25) 0, none, none⟩,
  ⟨(some 29), .extract (.t 25) 1, none, none⟩,
  ⟨(some 7), .mov (.t 28), none, none⟩,
  ⟨(some 8), .mov (.t 29), none, none⟩])
 (.seq (.seq (.region [⟨(some 30), .mov (.t 8), none, none⟩,
    ⟨(some 31), .load 8 true (.t 4), none, none⟩,
    ⟨(some 32), .call N_ref09_Is [((.t 30), .fz), ((.t 31), .fz)] [.fz], none, some .bool⟩,
    ⟨(some 33), .notB (.t 32), none, some .bool⟩])
   (.cond (.t 33) (.seq (.region [⟨(some 34), .call N_law09_lives [] [.fz], none, some .bool⟩,
      ⟨(some 6), .mov (.t 34), none, some .bool⟩])
     (.ret))
    (.skip)))
  (.seq (.draws [⟨⟨(some 35), .load 8 true (.t 4), none, none⟩, []⟩,
    ⟨⟨(some 36), .load 8 true (.t 4), none, none⟩, []⟩,
    ⟨⟨(some 9), .alloc 8 true (.ag [.fz (.int .i64 0), .fz (.int .i64 0), .fz (.int .i64 0), .fz (.int .i64 0), .fz (.int .i64 0), .fz (.str ⟨#[]⟩), .nils, .nils]), none, none⟩, []⟩,
    ⟨⟨(some 10), .alloc 8 true (.ag [.fz (.int .i64 0), .fz (.int .i64 0), .fz (.int .i64 0), .fz (.int .i64 0), .fz (.int .i64 0), .fz (.str ⟨#[]⟩), .nils, .nils]), none, none⟩, []⟩,
    ⟨⟨none, .store 8 true (.t 9) (.t 35), none, none⟩, [2, 0, 0, 2, 3]⟩,
    ⟨⟨none, .store 8 true (.t 10) (.t 36), none, none⟩, [3, 1, 4, 0, 1, 2, 3, 4]⟩])
   (.seq (.region [⟨(some 37), .fadr 0 (.t 4), none, none⟩,
     ⟨(some 38), .load 1 false (.t 37), none, some (.int .i64)⟩,
     ⟨(some 11), .mov (.t 38), none, some (.int .i64)⟩])
    (.seq (.seq (.region [⟨(some 12), .mov (.c (.fz (.int .i64 0))), none, some (.int .i64)⟩])
      (.block 0 (.loop [2, 7, 8, 9, 10, 11, 12] [6, 7, 9] A_law09_NodeCounts_b1)))
     A_law09_NodeCounts_s2))))
def A_law09_NodeCounts : AFunc := ⟨3, [(.tmp 6, .fz)], .seq (.region [⟨(some 4), .box 8 true (.t 1), none, none⟩,
  ⟨(some 6), .mov (.c (.fz (.bool false))), none, some .bool⟩])
 (.seq (.seq (.region [⟨(some 16), .load 8 true (.t 4), none, none⟩,
    ⟨(some 17), .call N_ref09_Light [((.t 16), .fz), ((.c (.fz (.int .i64 300))), .fz)] [.fz], none, some .bool⟩,
    ⟨(some 18), .notB (.t 17), none, some .bool⟩,
    ⟨(some 19), .mov (.t 18), none, some .bool⟩,
    ⟨(some 20), .mov (.t 2), (some (19, false)), none⟩,
    ⟨(some 21), .len (.sl 1 false) (.t 20), (some (19, false)), some (.int .i64)⟩,
    ⟨(some 22), .binI .gtr .i64 (.t 21) (.c (.fz (.int .i64 50))), (some (19, false)), some .bool⟩,
    ⟨(some 23), .pick (.t 19) (.c (.fz (.bool true))) (.t 22), none, some .bool⟩])
   (.cond (.t 23) (.seq (.region [⟨(some 24), .call N_law09_lives [] [.fz], none, some .bool⟩,
      ⟨(some 6), .mov (.t 24), none, some .bool⟩])
     (.ret))
    (.skip)))
  (.trim [0, 2, 4] A_law09_NodeCounts_j3))⟩
def J_law09_NodeCounts_3_0 (R : Orc) (k : Nat) (w : Bool) (x0 : Int) (x2 : List FV) (h4096_0 : Int) (h4096_1 : Int) (h4096_2 : Int) (h4096_3 : Int) (h4096_4 : Int) (h4096_5 : ByteArray) (h4096_6 : List FV) (h4096_7 : List FV) := execL R k w [] A_law09_NodeCounts_j3 Ans ⟨[(0, .fz (FV.int .i64 x0)), (2, .fz (FV.sl x2)), (4, .ptr 4096 0 0)], [(4095, .dead), (4096, .var 8 true (.fz (FV.ag [(FV.int .i64 h4096_0), (FV.int .i64 h4096_1), (FV.int .i64 h4096_2), (FV.int .i64 h4096_3), (FV.int .i64 h4096_4), (FV.str h4096_5), (FV.sl h4096_6), (FV.sl h4096_7)])))]⟩ (kFin R [(.tmp 6, .fz)] [])
def K_law09_NodeCounts_1 (R : Orc) (k : Nat) (w : Bool) : AExit → St → Option Ans := (kBlk 0 (kSeq R k w [] A_law09_NodeCounts_s2 (kFin R [(.tmp 6, .fz)] [])))
def L_law09_NodeCounts_1_0 (R : Orc) (k : Nat) (w : Bool) (n : Nat) (x2 : List FV) (x7 : FV) (x8 : FV) (x11 : Int) (x12 : Int) (h4096_0 : Int) (h4096_1 : Int) (h4096_2 : Int) (h4096_3 : Int) (h4096_4 : Int) (h4096_5 : ByteArray) (h4096_6 : List FV) (h4096_7 : List FV) (h4097_0 : Int) (h4097_1 : Int) (h4097_2 : Int) (h4097_3 : Int) (h4097_4 : Int) (h4097_5 : ByteArray) (h4097_6 : List FV) (h4097_7 : List FV) := loopL R k w [] [2, 7, 8, 9, 10, 11, 12] [6, 7, 9] A_law09_NodeCounts_b1 n ⟨[(2, .fz (FV.sl x2)), (7, .fz x7), (8, .fz x8), (9, .ptr 4096 0 0), (10, .ptr 4097 0 0), (11, .fz (FV.int .i64 x11)), (12, .fz (FV.int .i64 x12))], [(4095, .dead), (4096, .var 8 true (.fz (FV.ag [(FV.int .i64 h4096_0), (FV.int .i64 h4096_1), (FV.int .i64 h4096_2), (FV.int .i64 h4096_3), (FV.int .i64 h4096_4), (FV.str h4096_5), (FV.sl h4096_6), (FV.sl h4096_7)]))), (4097, .var 8 true (.fz (FV.ag [(FV.int .i64 h4097_0), (FV.int .i64 h4097_1), (FV.int .i64 h4097_2), (FV.int .i64 h4097_3), (FV.int .i64 h4097_4), (FV.str h4097_5), (FV.sl h4097_6), (FV.sl h4097_7)])))]⟩
def J_law09_NodeCounts_1_0 (R : Orc) (k : Nat) (w : Bool) (n : Nat) (x2 : List FV) (x7 : FV) (x8 : FV) (x11 : Int) (x12 : Int) (h4096_0 : Int) (h4096_1 : Int) (h4096_2 : Int) (h4096_3 : Int) (h4096_4 : Int) (h4096_5 : ByteArray) (h4096_6 : List FV) (h4096_7 : List FV) (h4097_0 : Int) (h4097_1 : Int) (h4097_2 : Int) (h4097_3 : Int) (h4097_4 : Int) (h4097_5 : ByteArray) (h4097_6 : List FV) (h4097_7 : List FV) := execL R k w [] A_law09_NodeCounts_j1 (AExit × St) ⟨[(2, .fz (FV.sl x2)), (7, .fz x7), (8, .fz x8), (9, .ptr 4096 0 0), (10, .ptr 4097 0 0), (11, .fz (FV.int .i64 x11)), (12, .fz (FV.int .i64 x12))], [(4095, .dead), (4096, .var 8 true (.fz (FV.ag [(FV.int .i64 h4096_0), (FV.int .i64 h4096_1), (FV.int .i64 h4096_2), (FV.int .i64 h4096_3), (FV.int .i64 h4096_4), (FV.str h4096_5), (FV.sl h4096_6), (FV.sl h4096_7)]))), (4097, .var 8 true (.fz (FV.ag [(FV.int .i64 h4097_0), (FV.int .i64 h4097_1), (FV.int .i64 h4097_2), (FV.int .i64 h4097_3), (FV.int .i64 h4097_4), (FV.str h4097_5), (FV.sl h4097_6), (FV.sl h4097_7)])))]⟩ (kLoop R k w [] [2, 7, 8, 9, 10, 11, 12] [6, 7, 9] A_law09_NodeCounts_b1 n)
def X_law09_NodeCounts_1_0 (x7 : FV) (h4096_0 : Int) (h4096_1 : Int) (h4096_2 : Int) (h4096_3 : Int) (h4096_4 : Int) (h4096_5 : ByteArray) (h4096_6 : List FV) (h4096_7 : List FV) : St := ⟨[(7, .fz x7), (9, .ptr 4096 0 0)], [(4095, .dead), (4096, .var 8 true (.fz (FV.ag [(FV.int .i64 h4096_0), (FV.int .i64 h4096_1), (FV.int .i64 h4096_2), (FV.int .i64 h4096_3), (FV.int .i64 h4096_4), (FV.str h4096_5), (FV.sl h4096_6), (FV.sl h4096_7)])))]⟩
def X_law09_NodeCounts_1_1 (x6 : Bool) (x7 : FV) (h4096_0 : Int) (h4096_1 : Int) (h4096_2 : Int) (h4096_3 : Int) (h4096_4 : Int) (h4096_5 : ByteArray) (h4096_6 : List FV) (h4096_7 : List FV) : St := ⟨[(6, .fz (FV.bool x6)), (7, .fz x7), (9, .ptr 4096 0 0)], [(4095, .dead), (4096, .var 8 true (.fz (FV.ag [(FV.int .i64 h4096_0), (FV.int .i64 h4096_1), (FV.int .i64 h4096_2), (FV.int .i64 h4096_3), (FV.int .i64 h4096_4), (FV.str h4096_5), (FV.sl h4096_6), (FV.sl h4096_7)])))]⟩
def L_law09_NodeCounts_1_1 (R : Orc) (k : Nat) (w : Bool) (n : Nat) (x2 : List FV) (x7 : FV) (x8 : FV) (x11 : Int) (x12 : Int) (h4096 : FV) (h4097 : FV) := loopL R k w [] [2, 7, 8, 9, 10, 11, 12] [6, 7, 9] A_law09_NodeCounts_b1 n ⟨[(2, .fz (FV.sl x2)), (7, .fz x7), (8, .fz x8), (9, .ptr 4096 0 0), (10, .ptr 4097 0 0), (11, .fz (FV.int .i64 x11)), (12, .fz (FV.int .i64 x12))], [(4095, .dead), (4096, .var 8 true (.fz h4096)), (4097, .var 8 true (.fz h4097))]⟩
def J_law09_NodeCounts_1_1 (R : Orc) (k : Nat) (w : Bool) (n : Nat) (x2 : List FV) (x7 : FV) (x8 : FV) (x11 : Int) (x12 : Int) (h4096 : FV) (h4097 : FV) := execL R k w [] A_law09_NodeCounts_j1 (AExit × St) ⟨[(2, .fz (FV.sl x2)), (7, .fz x7), (8, .fz x8), (9, .ptr 4096 0 0), (10, .ptr 4097 0 0), (11, .fz (FV.int .i64 x11)), (12, .fz (FV.int .i64 x12))], [(4095, .dead), (4096, .var 8 true (.fz h4096)), (4097, .var 8 true (.fz h4097))]⟩ (kLoop R k w [] [2, 7, 8, 9, 10, 11, 12] [6, 7, 9] A_law09_NodeCounts_b1 n)
def X_law09_NodeCounts_1_2 (x7 : FV) (h4096 : FV) : St := ⟨[(7, .fz x7), (9, .ptr 4096 0 0)], [(4095, .dead), (4096, .var 8 true (.fz h4096))]⟩
def X_law09_NodeCounts_1_3 (x6 : Bool) (x7 : FV) (h4096 : FV) : St := ⟨[(6, .fz (FV.bool x6)), (7, .fz x7), (9, .ptr 4096 0 0)], [(4095, .dead), (4096, .var 8 true (.fz h4096))]⟩
theorem E_law09_NodeCounts (R : Orc) (k : Nat) (w : Bool) (a0 : Int) (a1_0 : Int) (a1_1 : Int) (a1_2 : Int) (a1_3_0 : Int) (a1_3_1 : Int) (a1_4 : ByteArray) (a1_5 : List FV) (a1_6 : List FV) (a2 : List FV) : callL R k w A_law09_NodeCounts [.fz (FV.int .i64 a0), .fz (FV.ag [(FV.int .i64 a1_0), (FV.int .i64 a1_1), (FV.int .i64 a1_2), (FV.int .i64 a1_3_0), (FV.int .i64 a1_3_1), (FV.str a1_4), (FV.sl a1_5), (FV.sl a1_6)]), .fz (FV.sl a2)] = onR (R N_ref09_Light [.fz (FV.ag [(FV.int .i64 a1_0), (FV.int .i64 a1_1), (FV.int .i64 a1_2), (FV.int .i64 a1_3_0), (FV.int .i64 a1_3_1), (FV.str a1_4), (FV.sl a1_5), (FV.sl a1_6)]), .fz (FV.int .i64 300)]) fun r0 => when (List.isEmpty r0.2 && allF [.fz] r0.1) (when (FV.isBool (TV.toF (List.getD r0.1 0 TV.em))) (ifB (!(FV.toBool (TV.toF (List.getD r0.1 0 TV.em))))
  (onR (R N_law09_lives []) fun r1 => when (List.isEmpty r1.2 && allF [.fz] r1.1) (when (FV.isBool (TV.toF (List.getD r1.1 0 TV.em))) (some ([.fz (FV.bool (FV.toBool (TV.toF (List.getD r1.1 0 TV.em))))], []))))
  (ifB (decide ((List.length a2 : Int) > 50))
   (onR (R N_law09_lives []) fun r2 => when (List.isEmpty r2.2 && allF [.fz] r2.1) (when (FV.isBool (TV.toF (List.getD r2.1 0 TV.em))) (some ([.fz (FV.bool (FV.toBool (TV.toF (List.getD r2.1 0 TV.em))))], []))))
   (jump w (J_law09_NodeCounts_3_0 R k w a0 a2 a1_0 a1_1 a1_2 a1_3_0 a1_3_1 a1_4 a1_5 a1_6))))) := by kernel_rfl
theorem J_law09_NodeCounts_3_0_eq (R : Orc) (k : Nat) (w : Bool) (x0 : Int) (x2 : List FV) (h4096_0 : Int) (h4096_1 : Int) (h4096_2 : Int) (h4096_3 : Int) (h4096_4 : Int) (h4096_5 : ByteArray) (h4096_6 : List FV) (h4096_7 : List FV) : J_law09_NodeCounts_3_0 R k w x0 x2 h4096_0 h4096_1 h4096_2 h4096_3 h4096_4 h4096_5 h4096_6 h4096_7 = onR (R N_law09_of [.fz (FV.int .i64 x0)]) fun r3 => when (List.isEmpty r3.2 && allF [.fz, .fz] r3.1) (onR (R N_ref09_Is [.fz (TV.toF (List.getD r3.1 1 TV.em)), .fz (FV.ag [(FV.int .i64 h4096_0), (FV.int .i64 h4096_1), (FV.int .i64 h4096_2), (FV.int .i64 h4096_3), (FV.int .i64 h4096_4), (FV.str h4096_5), (FV.sl h4096_6), (FV.sl h4096_7)])]) fun r4 => when (List.isEmpty r4.2 && allF [.fz] r4.1) (when (FV.isBool (TV.toF (List.getD r4.1 0 TV.em))) (ifB (!(FV.toBool (TV.toF (List.getD r4.1 0 TV.em))))
  (onR (R N_law09_lives []) fun r5 => when (List.isEmpty r5.2 && allF [.fz] r5.1) (when (FV.isBool (TV.toF (List.getD r5.1 0 TV.em))) (some ([.fz (FV.bool (FV.toBool (TV.toF (List.getD r5.1 0 TV.em))))], []))))
  (onL (L_law09_NodeCounts_1_0 R k w k x2 (TV.toF (List.getD r3.1 0 TV.em)) (TV.toF (List.getD r3.1 1 TV.em)) h4096_0 0 h4096_0 h4096_1 h4096_2 h4096_3 h4096_4 h4096_5 h4096_6 h4096_7 h4096_0 h4096_1 h4096_2 h4096_3 h4096_4 h4096_5 h4096_6 h4096_7) (K_law09_NodeCounts_1 R k w))))) := by kernel_rfl
theorem L_law09_NodeCounts_1_0_eq (R : Orc) (k : Nat) (w : Bool) (n : Nat) (x2 : List FV) (x7 : FV) (x8 : FV) (x11 : Int) (x12 : Int) (h4096_0 : Int) (h4096_1 : Int) (h4096_2 : Int) (h4096_3 : Int) (h4096_4 : Int) (h4096_5 : ByteArray) (h4096_6 : List FV) (h4096_7 : List FV) (h4097_0 : Int) (h4097_1 : Int) (h4097_2 : Int) (h4097_3 : Int) (h4097_4 : Int) (h4097_5 : ByteArray) (h4097_6 : List FV) (h4097_7 : List FV) : L_law09_NodeCounts_1_0 R k w (n + 1) x2 x7 x8 x11 x12 h4096_0 h4096_1 h4096_2 h4096_3 h4096_4 h4096_5 h4096_6 h4096_7 h4097_0 h4097_1 h4097_2 h4097_3 h4097_4 h4097_5 h4097_6 h4097_7 = ifB (decide (x12 < (List.length x2 : Int)))
  (ifB (decide ((List.length h4097_6 : Int) > 0))
   (jump w (J_law09_NodeCounts_1_0 R k w n x2 x7 x8 x11 x12 h4096_0 h4096_1 h4096_2 h4096_3 h4096_4 h4096_5 h4096_6 h4096_7 h4097_0 h4097_1 h4097_2 h4097_3 h4097_4 h4097_5 h4097_6 h4097_7))
   (some ((.exit 0), X_law09_NodeCounts_1_0 x7 h4096_0 h4096_1 h4096_2 h4096_3 h4096_4 h4096_5 h4096_6 h4096_7)))
  (some ((.exit 0), X_law09_NodeCounts_1_0 x7 h4096_0 h4096_1 h4096_2 h4096_3 h4096_4 h4096_5 h4096_6 h4096_7)) := by kernel_rfl
theorem J_law09_NodeCounts_1_0_eq (R : Orc) (k : Nat) (w : Bool) (n : Nat) (x2 : List FV) (x7 : FV) (x8 : FV) (x11 : Int) (x12 : Int) (h4096_0 : Int) (h4096_1 : Int) (h4096_2 : Int) (h4096_3 : Int) (h4096_4 : Int) (h4096_5 : ByteArray) (h4096_6 : List FV) (h4096_7 : List FV) (h4097_0 : Int) (h4097_1 : Int) (h4097_2 : Int) (h4097_3 : Int) (h4097_4 : Int) (h4097_5 : ByteArray) (h4097_6 : List FV) (h4097_7 : List FV) : J_law09_NodeCounts_1_0 R k w n x2 x7 x8 x11 x12 h4096_0 h4096_1 h4096_2 h4096_3 h4096_4 h4096_5 h4096_6 h4096_7 h4097_0 h4097_1 h4097_2 h4097_3 h4097_4 h4097_5 h4097_6 h4097_7 = when ((decide (0 ≤ x12)) && (decide (x12 < (List.length x2 : Int)))) (when (FV.fits 1 false (List.getD x2 (Int.toNat x12) FV.nilp)) (when (FV.isInt .i64 (List.getD x2 (Int.toNat x12) FV.nilp)) (when (!decide ((List.length h4097_6 : Int) = 0)) (when (!decide ((List.length h4097_6 : Int) = 0)) (onR (R N_node_Item [.fz x7, .fz (FV.ag [(FV.int .i64 h4096_0), (FV.int .i64 h4096_1), (FV.int .i64 h4096_2), (FV.int .i64 h4096_3), (FV.int .i64 h4096_4), (FV.str h4096_5), (FV.sl h4096_6), (FV.sl h4096_7)]), .fz (FV.int .i64 (Int.tmod (IntKind.wrap .i64 ((Int.tmod (FV.toInt (List.getD x2 (Int.toNat x12) FV.nilp)) (List.length h4097_6 : Int)) + (List.length h4097_6 : Int))) (List.length h4097_6 : Int)))]) fun r6 => when (List.isEmpty r6.2 && allF [.fz, .fz] r6.1) (when (FV.isBool (TV.toF (List.getD r6.1 1 TV.em))) (when (FV.fits 8 true (TV.toF (List.getD r6.1 0 TV.em))) (when ((decide (0 ≤ (Int.tmod (IntKind.wrap .i64 ((Int.tmod (FV.toInt (List.getD x2 (Int.toNat x12) FV.nilp)) (List.length h4097_6 : Int)) + (List.length h4097_6 : Int))) (List.length h4097_6 : Int)))) && (decide ((Int.tmod (IntKind.wrap .i64 ((Int.tmod (FV.toInt (List.getD x2 (Int.toNat x12) FV.nilp)) (List.length h4097_6 : Int)) + (List.length h4097_6 : Int))) (List.length h4097_6 : Int)) < (List.length h4097_6 : Int)))) (when (FV.fits 8 true (List.getD h4097_6 (Int.toNat (Int.tmod (IntKind.wrap .i64 ((Int.tmod (FV.toInt (List.getD x2 (Int.toNat x12) FV.nilp)) (List.length h4097_6 : Int)) + (List.length h4097_6 : Int))) (List.length h4097_6 : Int))) FV.nilp)) (when (FV.fits 8 true (List.getD h4097_6 (Int.toNat (Int.tmod (IntKind.wrap .i64 ((Int.tmod (FV.toInt (List.getD x2 (Int.toNat x12) FV.nilp)) (List.length h4097_6 : Int)) + (List.length h4097_6 : Int))) (List.length h4097_6 : Int))) FV.nilp)) (when (FV.isAg 8 (List.getD h4097_6 (Int.toNat (Int.tmod (IntKind.wrap .i64 ((Int.tmod (FV.toInt (List.getD x2 (Int.toNat x12) FV.nilp)) (List.length h4097_6 : Int)) + (List.length h4097_6 : Int))) (List.length h4097_6 : Int))) FV.nilp)) (when (FV.isInt .i64 (FV.cell (List.getD h4097_6 (Int.toNat (Int.tmod (IntKind.wrap .i64 ((Int.tmod (FV.toInt (List.getD x2 (Int.toNat x12) FV.nilp)) (List.length h4097_6 : Int)) + (List.length h4097_6 : Int))) (List.length h4097_6 : Int))) FV.nilp) 0)) (onR (R N_ref09_Join [.fz x8, .fz (FV.int .i64 x11), .fz (FV.int .i64 (FV.toInt (FV.cell (List.getD h4097_6 (Int.toNat (Int.tmod (IntKind.wrap .i64 ((Int.tmod (FV.toInt (List.getD x2 (Int.toNat x12) FV.nilp)) (List.length h4097_6 : Int)) + (List.length h4097_6 : Int))) (List.length h4097_6 : Int))) FV.nilp) 0)))]) fun r7 => when (List.isEmpty r7.2 && allF [.fz] r7.1) (when (FV.isInt .i64 (TV.toF (List.getD r7.1 0 TV.em))) (ifB (!(FV.toBool (TV.toF (List.getD r6.1 1 TV.em))))
  (some (.ret, X_law09_NodeCounts_1_1 false x7 h4096_0 h4096_1 h4096_2 h4096_3 h4096_4 h4096_5 h4096_6 h4096_7))
  (when (FV.isAg 8 (TV.toF (List.getD r6.1 0 TV.em))) (when (FV.isInt .i64 (FV.cell (TV.toF (List.getD r6.1 0 TV.em)) 0)) (ifB ((FV.toInt (FV.cell (TV.toF (List.getD r6.1 0 TV.em)) 0)) != (FV.toInt (TV.toF (List.getD r7.1 0 TV.em))))
   (some (.ret, X_law09_NodeCounts_1_1 false x7 h4096_0 h4096_1 h4096_2 h4096_3 h4096_4 h4096_5 h4096_6 h4096_7))
   (when (FV.isAg 8 (TV.toF (List.getD r6.1 0 TV.em))) (when (FV.isInt .i64 (FV.cell (TV.toF (List.getD r6.1 0 TV.em)) 1)) (when (FV.isAg 8 (List.getD h4097_6 (Int.toNat (Int.tmod (IntKind.wrap .i64 ((Int.tmod (FV.toInt (List.getD x2 (Int.toNat x12) FV.nilp)) (List.length h4097_6 : Int)) + (List.length h4097_6 : Int))) (List.length h4097_6 : Int))) FV.nilp)) (when (FV.isInt .i64 (FV.cell (List.getD h4097_6 (Int.toNat (Int.tmod (IntKind.wrap .i64 ((Int.tmod (FV.toInt (List.getD x2 (Int.toNat x12) FV.nilp)) (List.length h4097_6 : Int)) + (List.length h4097_6 : Int))) (List.length h4097_6 : Int))) FV.nilp) 1)) (onR (R N_ref09_Join [.fz x8, .fz (FV.int .i64 (FV.toInt (TV.toF (List.getD r7.1 0 TV.em)))), .fz (FV.int .i64 (FV.toInt (FV.cell (List.getD h4097_6 (Int.toNat (Int.tmod (IntKind.wrap .i64 ((Int.tmod (FV.toInt (List.getD x2 (Int.toNat x12) FV.nilp)) (List.length h4097_6 : Int)) + (List.length h4097_6 : Int))) (List.length h4097_6 : Int))) FV.nilp) 1)))]) fun r8 => when (List.isEmpty r8.2 && allF [.fz] r8.1) (when (FV.isInt .i64 (TV.toF (List.getD r8.1 0 TV.em))) (ifB ((FV.toInt (FV.cell (TV.toF (List.getD r6.1 0 TV.em)) 1)) != (FV.toInt (TV.toF (List.getD r8.1 0 TV.em))))
    (some (.ret, X_law09_NodeCounts_1_1 false x7 h4096_0 h4096_1 h4096_2 h4096_3 h4096_4 h4096_5 h4096_6 h4096_7))
    (when (FV.isAg 8 (TV.toF (List.getD r6.1 0 TV.em))) (when (FV.isInt .i64 (FV.cell (TV.toF (List.getD r6.1 0 TV.em)) 2)) (when (FV.isAg 8 (List.getD h4097_6 (Int.toNat (Int.tmod (IntKind.wrap .i64 ((Int.tmod (FV.toInt (List.getD x2 (Int.toNat x12) FV.nilp)) (List.length h4097_6 : Int)) + (List.length h4097_6 : Int))) (List.length h4097_6 : Int))) FV.nilp)) (when (FV.isInt .i64 (FV.cell (List.getD h4097_6 (Int.toNat (Int.tmod (IntKind.wrap .i64 ((Int.tmod (FV.toInt (List.getD x2 (Int.toNat x12) FV.nilp)) (List.length h4097_6 : Int)) + (List.length h4097_6 : Int))) (List.length h4097_6 : Int))) FV.nilp) 2)) (ifB ((FV.toInt (FV.cell (TV.toF (List.getD r6.1 0 TV.em)) 2)) != (FV.toInt (FV.cell (List.getD h4097_6 (Int.toNat (Int.tmod (IntKind.wrap .i64 ((Int.tmod (FV.toInt (List.getD x2 (Int.toNat x12) FV.nilp)) (List.length h4097_6 : Int)) + (List.length h4097_6 : Int))) (List.length h4097_6 : Int))) FV.nilp) 2)))
     (some (.ret, X_law09_NodeCounts_1_1 false x7 h4096_0 h4096_1 h4096_2 h4096_3 h4096_4 h4096_5 h4096_6 h4096_7))
     (onR (R N_node_Is [.fz x7, .fz (TV.toF (List.getD r6.1 0 TV.em))]) fun r9 => when (List.isEmpty r9.2 && allF [.fz] r9.1) (when (FV.isBool (TV.toF (List.getD r9.1 0 TV.em))) (ifB (!(FV.toBool (TV.toF (List.getD r9.1 0 TV.em))))
      (some (.ret, X_law09_NodeCounts_1_1 false x7 h4096_0 h4096_1 h4096_2 h4096_3 h4096_4 h4096_5 h4096_6 h4096_7))
      (when (FV.fits 8 true (TV.toF (List.getD r6.1 0 TV.em))) (L_law09_NodeCounts_1_1 R k w n x2 x7 x8 (FV.toInt (TV.toF (List.getD r7.1 0 TV.em))) (IntKind.wrap .i64 (x12 + 1)) (TV.toF (List.getD r6.1 0 TV.em)) (List.getD h4097_6 (Int.toNat (Int.tmod (IntKind.wrap .i64 ((Int.tmod (FV.toInt (List.getD x2 (Int.toNat x12) FV.nilp)) (List.length h4097_6 : Int)) + (List.length h4097_6 : Int))) (List.length h4097_6 : Int))) FV.nilp)))))))))))))))))))))))))))))))))))) := by kernel_rfl
theorem X_law09_NodeCounts_1_0_eq (R : Orc) (k : Nat) (w : Bool) (x7 : FV) (h4096_0 : Int) (h4096_1 : Int) (h4096_2 : Int) (h4096_3 : Int) (h4096_4 : Int) (h4096_5 : ByteArray) (h4096_6 : List FV) (h4096_7 : List FV) : K_law09_NodeCounts_1 R k w (.exit 0) (X_law09_NodeCounts_1_0 x7 h4096_0 h4096_1 h4096_2 h4096_3 h4096_4 h4096_5 h4096_6 h4096_7) = onR (R N_node_Is [.fz x7, .fz (FV.ag [(FV.int .i64 h4096_0), (FV.int .i64 h4096_1), (FV.int .i64 h4096_2), (FV.int .i64 h4096_3), (FV.int .i64 h4096_4), (FV.str h4096_5), (FV.sl h4096_6), (FV.sl h4096_7)])]) fun r10 => when (List.isEmpty r10.2 && allF [.fz] r10.1) (when (FV.isBool (TV.toF (List.getD r10.1 0 TV.em))) (ifB (FV.toBool (TV.toF (List.getD r10.1 0 TV.em)))
  (onR (R N_law09_lives []) fun r11 => when (List.isEmpty r11.2 && allF [.fz] r11.1) (when (FV.isBool (TV.toF (List.getD r11.1 0 TV.em))) (some ([.fz (FV.bool (FV.toBool (TV.toF (List.getD r11.1 0 TV.em))))], []))))
  (some ([.fz (FV.bool false)], [])))) := by kernel_rfl
theorem X_law09_NodeCounts_1_1_eq (R : Orc) (k : Nat) (w : Bool) (x6 : Bool) (x7 : FV) (h4096_0 : Int) (h4096_1 : Int) (h4096_2 : Int) (h4096_3 : Int) (h4096_4 : Int) (h4096_5 : ByteArray) (h4096_6 : List FV) (h4096_7 : List FV) : K_law09_NodeCounts_1 R k w .ret (X_law09_NodeCounts_1_1 x6 x7 h4096_0 h4096_1 h4096_2 h4096_3 h4096_4 h4096_5 h4096_6 h4096_7) = some ([.fz (FV.bool x6)], []) := by kernel_rfl
theorem L_law09_NodeCounts_1_1_eq (R : Orc) (k : Nat) (w : Bool) (n : Nat) (x2 : List FV) (x7 : FV) (x8 : FV) (x11 : Int) (x12 : Int) (h4096 : FV) (h4097 : FV) : L_law09_NodeCounts_1_1 R k w (n + 1) x2 x7 x8 x11 x12 h4096 h4097 = ifB (decide (x12 < (List.length x2 : Int)))
  (when (FV.isAg 8 h4097) (when (FV.isSl (FV.cell h4097 6)) (ifB (decide ((List.length (FV.toSl (FV.cell h4097 6)) : Int) > 0))
   (jump w (J_law09_NodeCounts_1_1 R k w n x2 x7 x8 x11 x12 h4096 h4097))
   (some ((.exit 0), X_law09_NodeCounts_1_2 x7 h4096)))))
  (some ((.exit 0), X_law09_NodeCounts_1_2 x7 h4096)) := by kernel_rfl
theorem J_law09_NodeCounts_1_1_eq (R : Orc) (k : Nat) (w : Bool) (n : Nat) (x2 : List FV) (x7 : FV) (x8 : FV) (x11 : Int) (x12 : Int) (h4096 : FV) (h4097 : FV) : J_law09_NodeCounts_1_1 R k w n x2 x7 x8 x11 x12 h4096 h4097 = when ((decide (0 ≤ x12)) && (decide (x12 < (List.length x2 : Int)))) (when (FV.fits 1 false (List.getD x2 (Int.toNat x12) FV.nilp)) (when (FV.isInt .i64 (List.getD x2 (Int.toNat x12) FV.nilp)) (when (FV.isAg 8 h4097) (when (FV.isSl (FV.cell h4097 6)) (when (!decide ((List.length (FV.toSl (FV.cell h4097 6)) : Int) = 0)) (when (FV.isAg 8 h4097) (when (FV.isSl (FV.cell h4097 6)) (when (FV.isAg 8 h4097) (when (FV.isSl (FV.cell h4097 6)) (when (!decide ((List.length (FV.toSl (FV.cell h4097 6)) : Int) = 0)) (onR (R N_node_Item [.fz x7, .fz h4096, .fz (FV.int .i64 (Int.tmod (IntKind.wrap .i64 ((Int.tmod (FV.toInt (List.getD x2 (Int.toNat x12) FV.nilp)) (List.length (FV.toSl (FV.cell h4097 6)) : Int)) + (List.length (FV.toSl (FV.cell h4097 6)) : Int))) (List.length (FV.toSl (FV.cell h4097 6)) : Int)))]) fun r12 => when (List.isEmpty r12.2 && allF [.fz, .fz] r12.1) (when (FV.isBool (TV.toF (List.getD r12.1 1 TV.em))) (when (FV.fits 8 true (TV.toF (List.getD r12.1 0 TV.em))) (when (FV.isAg 8 h4097) (when (FV.isSl (FV.cell h4097 6)) (when ((decide (0 ≤ (Int.tmod (IntKind.wrap .i64 ((Int.tmod (FV.toInt (List.getD x2 (Int.toNat x12) FV.nilp)) (List.length (FV.toSl (FV.cell h4097 6)) : Int)) + (List.length (FV.toSl (FV.cell h4097 6)) : Int))) (List.length (FV.toSl (FV.cell h4097 6)) : Int)))) && (decide ((Int.tmod (IntKind.wrap .i64 ((Int.tmod (FV.toInt (List.getD x2 (Int.toNat x12) FV.nilp)) (List.length (FV.toSl (FV.cell h4097 6)) : Int)) + (List.length (FV.toSl (FV.cell h4097 6)) : Int))) (List.length (FV.toSl (FV.cell h4097 6)) : Int)) < (List.length (FV.toSl (FV.cell h4097 6)) : Int)))) (when (FV.fits 8 true (List.getD (FV.toSl (FV.cell h4097 6)) (Int.toNat (Int.tmod (IntKind.wrap .i64 ((Int.tmod (FV.toInt (List.getD x2 (Int.toNat x12) FV.nilp)) (List.length (FV.toSl (FV.cell h4097 6)) : Int)) + (List.length (FV.toSl (FV.cell h4097 6)) : Int))) (List.length (FV.toSl (FV.cell h4097 6)) : Int))) FV.nilp)) (when (FV.fits 8 true (List.getD (FV.toSl (FV.cell h4097 6)) (Int.toNat (Int.tmod (IntKind.wrap .i64 ((Int.tmod (FV.toInt (List.getD x2 (Int.toNat x12) FV.nilp)) (List.length (FV.toSl (FV.cell h4097 6)) : Int)) + (List.length (FV.toSl (FV.cell h4097 6)) : Int))) (List.length (FV.toSl (FV.cell h4097 6)) : Int))) FV.nilp)) (when (FV.isAg 8 (List.getD (FV.toSl (FV.cell h4097 6)) (Int.toNat (Int.tmod (IntKind.wrap .i64 ((Int.tmod (FV.toInt (List.getD x2 (Int.toNat x12) FV.nilp)) (List.length (FV.toSl (FV.cell h4097 6)) : Int)) + (List.length (FV.toSl (FV.cell h4097 6)) : Int))) (List.length (FV.toSl (FV.cell h4097 6)) : Int))) FV.nilp)) (when (FV.isInt .i64 (FV.cell (List.getD (FV.toSl (FV.cell h4097 6)) (Int.toNat (Int.tmod (IntKind.wrap .i64 ((Int.tmod (FV.toInt (List.getD x2 (Int.toNat x12) FV.nilp)) (List.length (FV.toSl (FV.cell h4097 6)) : Int)) + (List.length (FV.toSl (FV.cell h4097 6)) : Int))) (List.length (FV.toSl (FV.cell h4097 6)) : Int))) FV.nilp) 0)) (onR (R N_ref09_Join [.fz x8, .fz (FV.int .i64 x11), .fz (FV.int .i64 (FV.toInt (FV.cell (List.getD (FV.toSl (FV.cell h4097 6)) (Int.toNat (Int.tmod (IntKind.wrap .i64 ((Int.tmod (FV.toInt (List.getD x2 (Int.toNat x12) FV.nilp)) (List.length (FV.toSl (FV.cell h4097 6)) : Int)) + (List.length (FV.toSl (FV.cell h4097 6)) : Int))) (List.length (FV.toSl (FV.cell h4097 6)) : Int))) FV.nilp) 0)))]) fun r13 => when (List.isEmpty r13.2 && allF [.fz] r13.1) (when (FV.isInt .i64 (TV.toF (List.getD r13.1 0 TV.em))) (ifB (!(FV.toBool (TV.toF (List.getD r12.1 1 TV.em))))
  (some (.ret, X_law09_NodeCounts_1_3 false x7 h4096))
  (when (FV.isAg 8 (TV.toF (List.getD r12.1 0 TV.em))) (when (FV.isInt .i64 (FV.cell (TV.toF (List.getD r12.1 0 TV.em)) 0)) (ifB ((FV.toInt (FV.cell (TV.toF (List.getD r12.1 0 TV.em)) 0)) != (FV.toInt (TV.toF (List.getD r13.1 0 TV.em))))
   (some (.ret, X_law09_NodeCounts_1_3 false x7 h4096))
   (when (FV.isAg 8 (TV.toF (List.getD r12.1 0 TV.em))) (when (FV.isInt .i64 (FV.cell (TV.toF (List.getD r12.1 0 TV.em)) 1)) (when (FV.isAg 8 (List.getD (FV.toSl (FV.cell h4097 6)) (Int.toNat (Int.tmod (IntKind.wrap .i64 ((Int.tmod (FV.toInt (List.getD x2 (Int.toNat x12) FV.nilp)) (List.length (FV.toSl (FV.cell h4097 6)) : Int)) + (List.length (FV.toSl (FV.cell h4097 6)) : Int))) (List.length (FV.toSl (FV.cell h4097 6)) : Int))) FV.nilp)) (when (FV.isInt .i64 (FV.cell (List.getD (FV.toSl (FV.cell h4097 6)) (Int.toNat (Int.tmod (IntKind.wrap .i64 ((Int.tmod (FV.toInt (List.getD x2 (Int.toNat x12) FV.nilp)) (List.length (FV.toSl (FV.cell h4097 6)) : Int)) + (List.length (FV.toSl (FV.cell h4097 6)) : Int))) (List.length (FV.toSl (FV.cell h4097 6)) : Int))) FV.nilp) 1)) (onR (R N_ref09_Join [.fz x8, .fz (FV.int .i64 (FV.toInt (TV.toF (List.getD r13.1 0 TV.em)))), .fz (FV.int .i64 (FV.toInt (FV.cell (List.getD (FV.toSl (FV.cell h4097 6)) (Int.toNat (Int.tmod (IntKind.wrap .i64 ((Int.tmod (FV.toInt (List.getD x2 (Int.toNat x12) FV.nilp)) (List.length (FV.toSl (FV.cell h4097 6)) : Int)) + (List.length (FV.toSl (FV.cell h4097 6)) : Int))) (List.length (FV.toSl (FV.cell h4097 6)) : Int))) FV.nilp) 1)))]) fun r14 => when (List.isEmpty r14.2 && allF [.fz] r14.1) (when (FV.isInt .i64 (TV.toF (List.getD r14.1 0 TV.em))) (ifB ((FV.toInt (FV.cell (TV.toF (List.getD r12.1 0 TV.em)) 1)) != (FV.toInt (TV.toF (List.getD r14.1 0 TV.em))))
    (some (.ret, X_law09_NodeCounts_1_3 false x7 h4096))
    (when (FV.isAg 8 (TV.toF (List.getD r12.1 0 TV.em))) (when (FV.isInt .i64 (FV.cell (TV.toF (List.getD r12.1 0 TV.em)) 2)) (when (FV.isAg 8 (List.getD (FV.toSl (FV.cell h4097 6)) (Int.toNat (Int.tmod (IntKind.wrap .i64 ((Int.tmod (FV.toInt (List.getD x2 (Int.toNat x12) FV.nilp)) (List.length (FV.toSl (FV.cell h4097 6)) : Int)) + (List.length (FV.toSl (FV.cell h4097 6)) : Int))) (List.length (FV.toSl (FV.cell h4097 6)) : Int))) FV.nilp)) (when (FV.isInt .i64 (FV.cell (List.getD (FV.toSl (FV.cell h4097 6)) (Int.toNat (Int.tmod (IntKind.wrap .i64 ((Int.tmod (FV.toInt (List.getD x2 (Int.toNat x12) FV.nilp)) (List.length (FV.toSl (FV.cell h4097 6)) : Int)) + (List.length (FV.toSl (FV.cell h4097 6)) : Int))) (List.length (FV.toSl (FV.cell h4097 6)) : Int))) FV.nilp) 2)) (ifB ((FV.toInt (FV.cell (TV.toF (List.getD r12.1 0 TV.em)) 2)) != (FV.toInt (FV.cell (List.getD (FV.toSl (FV.cell h4097 6)) (Int.toNat (Int.tmod (IntKind.wrap .i64 ((Int.tmod (FV.toInt (List.getD x2 (Int.toNat x12) FV.nilp)) (List.length (FV.toSl (FV.cell h4097 6)) : Int)) + (List.length (FV.toSl (FV.cell h4097 6)) : Int))) (List.length (FV.toSl (FV.cell h4097 6)) : Int))) FV.nilp) 2)))
     (some (.ret, X_law09_NodeCounts_1_3 false x7 h4096))
     (onR (R N_node_Is [.fz x7, .fz (TV.toF (List.getD r12.1 0 TV.em))]) fun r15 => when (List.isEmpty r15.2 && allF [.fz] r15.1) (when (FV.isBool (TV.toF (List.getD r15.1 0 TV.em))) (ifB (!(FV.toBool (TV.toF (List.getD r15.1 0 TV.em))))
      (some (.ret, X_law09_NodeCounts_1_3 false x7 h4096))
      (when (FV.fits 8 true (TV.toF (List.getD r12.1 0 TV.em))) (L_law09_NodeCounts_1_1 R k w n x2 x7 x8 (FV.toInt (TV.toF (List.getD r13.1 0 TV.em))) (IntKind.wrap .i64 (x12 + 1)) (TV.toF (List.getD r12.1 0 TV.em)) (List.getD (FV.toSl (FV.cell h4097 6)) (Int.toNat (Int.tmod (IntKind.wrap .i64 ((Int.tmod (FV.toInt (List.getD x2 (Int.toNat x12) FV.nilp)) (List.length (FV.toSl (FV.cell h4097 6)) : Int)) + (List.length (FV.toSl (FV.cell h4097 6)) : Int))) (List.length (FV.toSl (FV.cell h4097 6)) : Int))) FV.nilp)))))))))))))))))))))))))))))))))))))))))))) := by kernel_rfl
theorem X_law09_NodeCounts_1_2_eq (R : Orc) (k : Nat) (w : Bool) (x7 : FV) (h4096 : FV) : K_law09_NodeCounts_1 R k w (.exit 0) (X_law09_NodeCounts_1_2 x7 h4096) = onR (R N_node_Is [.fz x7, .fz h4096]) fun r16 => when (List.isEmpty r16.2 && allF [.fz] r16.1) (when (FV.isBool (TV.toF (List.getD r16.1 0 TV.em))) (ifB (FV.toBool (TV.toF (List.getD r16.1 0 TV.em)))
  (onR (R N_law09_lives []) fun r17 => when (List.isEmpty r17.2 && allF [.fz] r17.1) (when (FV.isBool (TV.toF (List.getD r17.1 0 TV.em))) (some ([.fz (FV.bool (FV.toBool (TV.toF (List.getD r17.1 0 TV.em))))], []))))
  (some ([.fz (FV.bool false)], [])))) := by kernel_rfl
theorem X_law09_NodeCounts_1_3_eq (R : Orc) (k : Nat) (w : Bool) (x6 : Bool) (x7 : FV) (h4096 : FV) : K_law09_NodeCounts_1 R k w .ret (X_law09_NodeCounts_1_3 x6 x7 h4096) = some ([.fz (FV.bool x6)], []) := by kernel_rfl
/-! keyhole/keyholelaw09.NodeIs -/
def A_law09_NodeIs_j1 : ACode := .seq (.region [⟨(some 19), .mov (.t 0), none, some (.int .i64)⟩,
  ⟨(some 20), .call N_law09_of [((.t 19), .fz)] [.fz, .fz], none, none⟩,
  ⟨(some 18), .mov (.t 20), none, none⟩,
  ⟨(some 21), .extract (.t 18) 0, none, none⟩,
  ⟨(some 22), .extract (.t 18) 1, none, none⟩,
  ⟨(some 7), .mov (.t 21), none, none⟩,
  ⟨(some 8), .mov (.t 22), none, none⟩])
 (.seq (.draws [⟨⟨(some 23), .mov (.t 7), none, none⟩, []⟩,
   ⟨⟨(some 24), .load 8 true (.t 4), none, none⟩, []⟩,
   ⟨⟨(some 25), .call N_node_Is [((.t 23), .fz), ((.t 24), .fz)] [.fz], none, some .bool⟩, [0, 1]⟩,
   ⟨⟨(some 26), .mov (.t 8), none, none⟩, []⟩,
   ⟨⟨(some 27), .load 8 true (.t 4), none, none⟩, []⟩,
   ⟨⟨(some 28), .call N_ref09_Is [((.t 26), .fz), ((.t 27), .fz)] [.fz], none, some .bool⟩, [3, 4, 2]⟩,
   ⟨⟨(some 29), .binB false (.t 25) (.t 28), none, some .bool⟩, [2, 5]⟩,
   ⟨⟨(some 30), .mov (.t 29), none, some .bool⟩, [6, 5]⟩,
   ⟨⟨(some 31), .load 8 true (.t 4), (some (30, true)), none⟩, [7]⟩,
   ⟨⟨(some 32), .load 8 true (.t 5), (some (30, true)), none⟩, [7]⟩,
   ⟨⟨(some 33), .call N_node_Same [((.t 31), .fz), ((.t 32), .fz)] [.fz], (some (30, true)), some .bool⟩, [8, 9, 7, 7]⟩,
   ⟨⟨(some 34), .load 8 true (.t 4), (some (30, true)), none⟩, [7]⟩,
   ⟨⟨(some 35), .load 8 true (.t 5), (some (30, true)), none⟩, [7]⟩,
   ⟨⟨(some 36), .call N_ref09_Same [((.t 34), .fz), ((.t 35), .fz)] [.fz], (some (30, true)), some .bool⟩, [11, 12, 10, 7]⟩,
   ⟨⟨(some 37), .binB false (.t 33) (.t 36), (some (30, true)), some .bool⟩, [10, 13, 7]⟩,
   ⟨⟨(some 38), .pick (.t 30) (.t 37) (.c (.fz (.bool false))), none, some .bool⟩, [7, 14]⟩,
   ⟨⟨(some 39), .mov (.t 38), none, some .bool⟩, [15, 13]⟩,
   ⟨⟨(some 40), .call N_law09_lives [] [.fz], (some (39, true)), some .bool⟩, [16, 16]⟩,
   ⟨⟨(some 41), .pick (.t 39) (.t 40) (.c (.fz (.bool false))), none, some .bool⟩, [16, 17]⟩,
   ⟨⟨(some 6), .mov (.t 41), none, some .bool⟩, [18, 17, 0, 1, 2, 3, 4, 5, 6, 7, 8, 9, 10, 11, 12, 13, 14, 15, 16, 17, 18]⟩])
  (.ret))
def A_law09_NodeIs : AFunc := ⟨3, [(.tmp 6, .fz)], .seq (.region [⟨(some 4), .box 8 true (.t 1), none, none⟩,
  ⟨(some 5), .box 8 true (.t 2), none, none⟩,
  ⟨(some 6), .mov (.c (.fz (.bool false))), none, some .bool⟩])
 (.seq (.seq (.region [⟨(some 9), .load 8 true (.t 4), none, none⟩,
    ⟨(some 10), .call N_ref09_Light [((.t 9), .fz), ((.c (.fz (.int .i64 300))), .fz)] [.fz], none, some .bool⟩,
    ⟨(some 11), .notB (.t 10), none, some .bool⟩,
    ⟨(some 12), .mov (.t 11), none, some .bool⟩,
    ⟨(some 13), .load 8 true (.t 5), (some (12, false)), none⟩,
    ⟨(some 14), .call N_ref09_Light [((.t 13), .fz), ((.c (.fz (.int .i64 300))), .fz)] [.fz], (some (12, false)), some .bool⟩,
    ⟨(some 15), .notB (.t 14), (some (12, false)), some .bool⟩,
    ⟨(some 16), .pick (.t 12) (.c (.fz (.bool true))) (.t 15), none, some .bool⟩])
   (.cond (.t 16) (.seq (.region [⟨(some 17), .call N_law09_lives [] [.fz], none, some .bool⟩,
      ⟨(some 6), .mov (.t 17), none, some .bool⟩])
     (.ret))
    (.skip)))
  (.trim [0, 4, 5] A_law09_NodeIs_j1))⟩
def J_law09_NodeIs_1_0 (R : Orc) (k : Nat) (w : Bool) (x0 : Int) (h4096_0 : Int) (h4096_1 : Int) (h4096_2 : Int) (h4096_3 : Int) (h4096_4 : Int) (h4096_5 : ByteArray) (h4096_6 : List FV) (h4096_7 : List FV) (h4097_0 : Int) (h4097_1 : Int) (h4097_2 : Int) (h4097_3 : Int) (h4097_4 : Int) (h4097_5 : ByteArray) (h4097_6 : List FV) (h4097_7 : List FV) := execL R k w [] A_law09_NodeIs_j1 Ans ⟨[(0, .fz (FV.int .i64 x0)), (4, .ptr 4096 0 0), (5, .ptr 4097 0 0)], [(4095, .dead), (4096, .var 8 true (.fz (FV.ag [(FV.int .i64 h4096_0), (FV.int .i64 h4096_1), (FV.int .i64 h4096_2), (FV.int .i64 h4096_3), (FV.int .i64 h4096_4), (FV.str h4096_5), (FV.sl h4096_6), (FV.sl h4096_7)]))), (4097, .var 8 true (.fz (FV.ag [(FV.int .i64 h4097_0), (FV.int .i64 h4097_1), (FV.int .i64 h4097_2), (FV.int .i64 h4097_3), (FV.int .i64 h4097_4), (FV.str h4097_5), (FV.sl h4097_6), (FV.sl h4097_7)])))]⟩ (kFin R [(.tmp 6, .fz)] [])
theorem E_law09_NodeIs (R : Orc) (k : Nat) (w : Bool) (a0 : Int) (a1_0 : Int) (a1_1 : Int) (a1_2 : Int) (a1_3_0 : Int) (a1_3_1 : Int) (a1_4 : ByteArray) (a1_5 : List FV) (a1_6 : List FV) (a2_0 : Int) (a2_1 : Int) (a2_2 : Int) (a2_3_0 : Int) (a2_3_1 : Int) (a2_4 : ByteArray) (a2_5 : List FV) (a2_6 : List FV) : callL R k w A_law09_NodeIs [.fz (FV.int .i64 a0), .fz (FV.ag [(FV.int .i64 a1_0), (FV.int .i64 a1_1), (FV.int .i64 a1_2), (FV.int .i64 a1_3_0), (FV.int .i64 a1_3_1), (FV.str a1_4), (FV.sl a1_5), (FV.sl a1_6)]), .fz (FV.ag [(FV.int .i64 a2_0), (FV.int .i64 a2_1), (FV.int .i64 a2_2), (FV.int .i64 a2_3_0), (FV.int .i64 a2_3_1), (FV.str a2_4), (FV.sl a2_5), (FV.sl a2_6)])] = onR (R N_ref09_Light [.fz (FV.ag [(FV.int .i64 a1_0), (FV.int .i64 a1_1), (FV.int .i64 a1_2), (FV.int .i64 a1_3_0), (FV.int .i64 a1_3_1), (FV.str a1_4), (FV.sl a1_5), (FV.sl a1_6)]), .fz (FV.int .i64 300)]) fun r0 => when (List.isEmpty r0.2 && allF [.fz] r0.1) (when (FV.isBool (TV.toF (List.getD r0.1 0 TV.em))) (ifB (!(FV.toBool (TV.toF (List.getD r0.1 0 TV.em))))
  (onR (R N_law09_lives []) fun r1 => when (List.isEmpty r1.2 && allF [.fz] r1.1) (when (FV.isBool (TV.toF (List.getD r1.1 0 TV.em))) (some ([.fz (FV.bool (FV.toBool (TV.toF (List.getD r1.1 0 TV.em))))], []))))
  (onR (R N_ref09_Light [.fz (FV.ag [(FV.int .i64 a2_0), (FV.int .i64 a2_1), (FV.int .i64 a2_2), (FV.int .i64 a2_3_0), (FV.int .i64 a2_3_1), (FV.str a2_4), (FV.sl a2_5), (FV.sl a2_6)]), .fz (FV.int .i64 300)]) fun r2 => when (List.isEmpty r2.2 && allF [.fz] r2.1) (when (FV.isBool (TV.toF (List.getD r2.1 0 TV.em))) (ifB (!(FV.toBool (TV.toF (List.getD r2.1 0 TV.em))))
   (onR (R N_law09_lives []) fun r3 => when (List.isEmpty r3.2 && allF [.fz] r3.1) (when (FV.isBool (TV.toF (List.getD r3.1 0 TV.em))) (some ([.fz (FV.bool (FV.toBool (TV.toF (List.getD r3.1 0 TV.em))))], []))))
   (jump w (J_law09_NodeIs_1_0 R k w a0 a1_0 a1_1 a1_2 a1_3_0 a1_3_1 a1_4 a1_5 a1_6 a2_0 a2_1 a2_2 a2_3_0 a2_3_1 a2_4 a2_5 a2_6))))))) := by kernel_rfl
theorem J_law09_NodeIs_1_0_eq (R : Orc) (k : Nat) (w : Bool) (x0 : Int) (h4096_0 : Int) (h4096_1 : Int) (h4096_2 : Int) (h4096_3 : Int) (h4096_4 : Int) (h4096_5 : ByteArray) (h4096_6 : List FV) (h4096_7 : List FV) (h4097_0 : Int) (h4097_1 : Int) (h4097_2 : Int) (h4097_3 : Int) (h4097_4 : Int) (h4097_5 : ByteArray) (h4097_6 : List FV) (h4097_7 : List FV) : J_law09_NodeIs_1_0 R k w x0 h4096_0 h4096_1 h4096_2 h4096_3 h4096_4 h4096_5 h4096_6 h4096_7 h4097_0 h4097_1 h4097_2 h4097_3 h4097_4 h4097_5 h4097_6 h4097_7 = onR (R N_law09_of [.fz (FV.int .i64 x0)]) fun r4 => when (List.isEmpty r4.2 && allF [.fz, .fz] r4.1) (onR (R N_node_Is [.fz (TV.toF (List.getD r4.1 0 TV.em)), .fz (FV.ag [(FV.int .i64 h4096_0), (FV.int .i64 h4096_1), (FV.int .i64 h4096_2), (FV.int .i64 h4096_3), (FV.int .i64 h4096_4), (FV.str h4096_5), (FV.sl h4096_6), (FV.sl h4096_7)])]) fun r5 => when (List.isEmpty r5.2 && allF [.fz] r5.1) (when (FV.isBool (TV.toF (List.getD r5.1 0 TV.em))) (onR (R N_ref09_Is [.fz (TV.toF (List.getD r4.1 1 TV.em)), .fz (FV.ag [(FV.int .i64 h4096_0), (FV.int .i64 h4096_1), (FV.int .i64 h4096_2), (FV.int .i64 h4096_3), (FV.int .i64 h4096_4), (FV.str h4096_5), (FV.sl h4096_6), (FV.sl h4096_7)])]) fun r6 => when (List.isEmpty r6.2 && allF [.fz] r6.1) (when (FV.isBool (TV.toF (List.getD r6.1 0 TV.em))) (ifB ((FV.toBool (TV.toF (List.getD r5.1 0 TV.em))) == (FV.toBool (TV.toF (List.getD r6.1 0 TV.em))))
  (onR (R N_node_Same [.fz (FV.ag [(FV.int .i64 h4096_0), (FV.int .i64 h4096_1), (FV.int .i64 h4096_2), (FV.int .i64 h4096_3), (FV.int .i64 h4096_4), (FV.str h4096_5), (FV.sl h4096_6), (FV.sl h4096_7)]), .fz (FV.ag [(FV.int .i64 h4097_0), (FV.int .i64 h4097_1), (FV.int .i64 h4097_2), (FV.int .i64 h4097_3), (FV.int .i64 h4097_4), (FV.str h4097_5), (FV.sl h4097_6), (FV.sl h4097_7)])]) fun r7 => when (List.isEmpty r7.2 && allF [.fz] r7.1) (when (FV.isBool (TV.toF (List.getD r7.1 0 TV.em))) (onR (R N_ref09_Same [.fz (FV.ag [(FV.int .i64 h4096_0), (FV.int .i64 h4096_1), (FV.int .i64 h4096_2), (FV.int .i64 h4096_3), (FV.int .i64 h4096_4), (FV.str h4096_5), (FV.sl h4096_6), (FV.sl h4096_7)]), .fz (FV.ag [(FV.int .i64 h4097_0), (FV.int .i64 h4097_1), (FV.int .i64 h4097_2), (FV.int .i64 h4097_3), (FV.int .i64 h4097_4), (FV.str h4097_5), (FV.sl h4097_6), (FV.sl h4097_7)])]) fun r8 => when (List.isEmpty r8.2 && allF [.fz] r8.1) (when (FV.isBool (TV.toF (List.getD r8.1 0 TV.em))) (ifB ((FV.toBool (TV.toF (List.getD r7.1 0 TV.em))) == (FV.toBool (TV.toF (List.getD r8.1 0 TV.em))))
   (onR (R N_law09_lives []) fun r9 => when (List.isEmpty r9.2 && allF [.fz] r9.1) (when (FV.isBool (TV.toF (List.getD r9.1 0 TV.em))) (some ([.fz (FV.bool (FV.toBool (TV.toF (List.getD r9.1 0 TV.em))))], []))))
   (some ([.fz (FV.bool false)], [])))))))
  (some ([.fz (FV.bool false)], []))))))) := by kernel_rfl
/-! keyhole/keyholelaw09.of -/
def A_law09_of : AFunc := ⟨1, [(.tmp 2, .fz), (.tmp 3, .fz)], .seq (.region [⟨(some 2), .mov (.c (.fz (.nilp))), none, none⟩,
  ⟨(some 3), .mov (.c (.nils)), none, none⟩])
 (.seq (.region [⟨(some 7), .mov (.t 0), none, some (.int .i64)⟩,
   ⟨(some 8), .call N_ref01_Sort [((.t 7), .fz)] [.fz], none, none⟩,
   ⟨(some 4), .alloc 3 true (.ag [.nils, .nils, .nils]), none, none⟩,
   ⟨none, .store 3 true (.t 4) (.t 8), none, none⟩])
  (.seq (.region [⟨(some 10), .load 3 true (.t 4), none, none⟩,
    ⟨(some 11), .call N_level_New [((.t 10), .fz)] [.fz, .fz], none, none⟩,
    ⟨(some 9), .mov (.t 11), none, none⟩,
    ⟨(some 12), .extract (.t 9) 0, none, none⟩,
    ⟨(some 13), .extract (.t 9) 1, none, some (.int .i64)⟩,
    ⟨(some 5), .mov (.t 12), none, none⟩,
    ⟨(some 6), .mov (.t 13), none, some (.int .i64)⟩])
   (.seq (.region [⟨(some 14), .mov (.t 5), none, none⟩,
     ⟨(some 15), .load 3 true (.t 4), none, none⟩,
     ⟨(some 16), .call N_ref01_Table [((.t 15), .fz)] [.fz], none, none⟩,
     ⟨(some 2), .mov (.t 14), none, none⟩,
     ⟨(some 3), .mov (.t 16), none, none⟩])
    (.ret))))⟩
theorem E_law09_of (R : Orc) (k : Nat) (w : Bool) (a0 : Int) : callL R k w A_law09_of [.fz (FV.int .i64 a0)] = onR (R N_ref01_Sort [.fz (FV.int .i64 a0)]) fun r0 => when (List.isEmpty r0.2 && allF [.fz] r0.1) (when (FV.fits 3 true (TV.toF (List.getD r0.1 0 TV.em))) (onR (R N_level_New [.fz (TV.toF (List.getD r0.1 0 TV.em))]) fun r1 => when (List.isEmpty r1.2 && allF [.fz, .fz] r1.1) (when (FV.isInt .i64 (TV.toF (List.getD r1.1 1 TV.em))) (onR (R N_ref01_Table [.fz (TV.toF (List.getD r0.1 0 TV.em))]) fun r2 => when (List.isEmpty r2.2 && allF [.fz] r2.1) (some ([.fz (TV.toF (List.getD r1.1 0 TV.em)), .fz (TV.toF (List.getD r2.1 0 TV.em))], [])))))) := by kernel_rfl
/-! keyhole/keyholeref09.Light -/
def A_ref09_Light : AFunc := ⟨2, [(.tmp 4, .fz)], .seq (.region [⟨(some 2), .box 8 true (.t 0), none, none⟩,
  ⟨(some 4), .mov (.c (.fz (.bool false))), none, some .bool⟩])
 (.seq (.region [⟨(some 5), .load 8 true (.t 2), none, none⟩,
   ⟨(some 6), .mov (.t 1), none, some (.int .i64)⟩,
   ⟨(some 7), .binI .add .i64 (.t 6) (.c (.fz (.int .i64 1))), none, some (.int .i64)⟩,
   ⟨(some 8), .call N_ref09_Size [((.t 5), .fz), ((.c (.fz (.int .i64 0))), .fz), ((.t 7), .fz)] [.fz], none, some (.int .i64)⟩,
   ⟨(some 9), .mov (.t 1), none, some (.int .i64)⟩,
   ⟨(some 10), .binI .leq .i64 (.t 8) (.t 9), none, some .bool⟩,
   ⟨(some 11), .mov (.t 10), none, some .bool⟩,
   ⟨(some 12), .load 8 true (.t 2), (some (11, true)), none⟩,
   ⟨(some 13), .call N_ref09_Flat [((.t 12), .fz), ((.c (.fz (.int .i64 60))), .fz)] [.fz], (some (11, true)), some .bool⟩,
   ⟨(some 14), .pick (.t 11) (.t 13) (.c (.fz (.bool false))), none, some .bool⟩,
   ⟨(some 4), .mov (.t 14), none, some .bool⟩])
  (.ret))⟩
theorem E_ref09_Light (R : Orc) (k : Nat) (w : Bool) (a0_0 : Int) (a0_1 : Int) (a0_2 : Int) (a0_3_0 : Int) (a0_3_1 : Int) (a0_4 : ByteArray) (a0_5 : List FV) (a0_6 : List FV) (a1 : Int) : callL R k w A_ref09_Light [.fz (FV.ag [(FV.int .i64 a0_0), (FV.int .i64 a0_1), (FV.int .i64 a0_2), (FV.int .i64 a0_3_0), (FV.int .i64 a0_3_1), (FV.str a0_4), (FV.sl a0_5), (FV.sl a0_6)]), .fz (FV.int .i64 a1)] = onR (R N_ref09_Size [.fz (FV.ag [(FV.int .i64 a0_0), (FV.int .i64 a0_1), (FV.int .i64 a0_2), (FV.int .i64 a0_3_0), (FV.int .i64 a0_3_1), (FV.str a0_4), (FV.sl a0_5), (FV.sl a0_6)]), .fz (FV.int .i64 0), .fz (FV.int .i64 (IntKind.wrap .i64 (a1 + 1)))]) fun r0 => when (List.isEmpty r0.2 && allF [.fz] r0.1) (when (FV.isInt .i64 (TV.toF (List.getD r0.1 0 TV.em))) (ifB (decide ((FV.toInt (TV.toF (List.getD r0.1 0 TV.em))) ≤ a1))
  (onR (R N_ref09_Flat [.fz (FV.ag [(FV.int .i64 a0_0), (FV.int .i64 a0_1), (FV.int .i64 a0_2), (FV.int .i64 a0_3_0), (FV.int .i64 a0_3_1), (FV.str a0_4), (FV.sl a0_5), (FV.sl a0_6)]), .fz (FV.int .i64 60)]) fun r1 => when (List.isEmpty r1.2 && allF [.fz] r1.1) (when (FV.isBool (TV.toF (List.getD r1.1 0 TV.em))) (some ([.fz (FV.bool (FV.toBool (TV.toF (List.getD r1.1 0 TV.em))))], []))))
  (some ([.fz (FV.bool false)], [])))) := by kernel_rfl
/-! keyhole/keyholeref09.Is -/
def A_ref09_Is : AFunc := ⟨2, [(.tmp 4, .fz)], .seq (.region [⟨(some 3), .box 8 true (.t 1), none, none⟩,
  ⟨(some 4), .mov (.c (.fz (.bool false))), none, some .bool⟩])
 (.seq (.region [⟨(some 5), .mov (.t 0), none, none⟩,
   ⟨(some 6), .load 8 true (.t 3), none, none⟩,
   ⟨(some 7), .call N_ref09_Labels [((.t 5), .fz), ((.t 6), .fz)] [.fz], none, some .bool⟩,
   ⟨(some 8), .mov (.t 7), none, some .bool⟩,
   ⟨(some 9), .mov (.t 0), (some (8, true)), none⟩,
   ⟨(some 10), .load 8 true (.t 3), (some (8, true)), none⟩,
   ⟨(some 11), .call N_ref09_right [((.t 9), .fz), ((.t 10), .fz)] [.fz], (some (8, true)), some .bool⟩,
   ⟨(some 12), .pick (.t 8) (.t 11) (.c (.fz (.bool false))), none, some .bool⟩,
   ⟨(some 13), .mov (.t 12), none, some .bool⟩,
   ⟨(some 14), .load 8 true (.t 3), (some (13, true)), none⟩,
   ⟨(some 15), .call N_ref09_Strip [((.t 14), .fz)] [.fz], (some (13, true)), none⟩,
   ⟨(some 16), .call N_ref09_shape [((.t 15), .fz)] [.fz], (some (13, true)), some .bool⟩,
   ⟨(some 17), .pick (.t 13) (.t 16) (.c (.fz (.bool false))), none, some .bool⟩,
   ⟨(some 4), .mov (.t 17), none, some .bool⟩])
  (.ret))⟩
theorem E_ref09_Is (R : Orc) (k : Nat) (w : Bool) (a0 : List FV) (a1_0 : Int) (a1_1 : Int) (a1_2 : Int) (a1_3_0 : Int) (a1_3_1 : Int) (a1_4 : ByteArray) (a1_5 : List FV) (a1_6 : List FV) : callL R k w A_ref09_Is [.fz (FV.sl a0), .fz (FV.ag [(FV.int .i64 a1_0), (FV.int .i64 a1_1), (FV.int .i64 a1_2), (FV.int .i64 a1_3_0), (FV.int .i64 a1_3_1), (FV.str a1_4), (FV.sl a1_5), (FV.sl a1_6)])] = onR (R N_ref09_Labels [.fz (FV.sl a0), .fz (FV.ag [(FV.int .i64 a1_0), (FV.int .i64 a1_1), (FV.int .i64 a1_2), (FV.int .i64 a1_3_0), (FV.int .i64 a1_3_1), (FV.str a1_4), (FV.sl a1_5), (FV.sl a1_6)])]) fun r0 => when (List.isEmpty r0.2 && allF [.fz] r0.1) (when (FV.isBool (TV.toF (List.getD r0.1 0 TV.em))) (ifB (FV.toBool (TV.toF (List.getD r0.1 0 TV.em)))
  (onR (R N_ref09_right [.fz (FV.sl a0), .fz (FV.ag [(FV.int .i64 a1_0), (FV.int .i64 a1_1), (FV.int .i64 a1_2), (FV.int .i64 a1_3_0), (FV.int .i64 a1_3_1), (FV.str a1_4), (FV.sl a1_5), (FV.sl a1_6)])]) fun r1 => when (List.isEmpty r1.2 && allF [.fz] r1.1) (when (FV.isBool (TV.toF (List.getD r1.1 0 TV.em))) (ifB (FV.toBool (TV.toF (List.getD r1.1 0 TV.em)))
   (onR (R N_ref09_Strip [.fz (FV.ag [(FV.int .i64 a1_0), (FV.int .i64 a1_1), (FV.int .i64 a1_2), (FV.int .i64 a1_3_0), (FV.int .i64 a1_3_1), (FV.str a1_4), (FV.sl a1_5), (FV.sl a1_6)])]) fun r2 => when (List.isEmpty r2.2 && allF [.fz] r2.1) (onR (R N_ref09_shape [.fz (TV.toF (List.getD r2.1 0 TV.em))]) fun r3 => when (List.isEmpty r3.2 && allF [.fz] r3.1) (when (FV.isBool (TV.toF (List.getD r3.1 0 TV.em))) (some ([.fz (FV.bool (FV.toBool (TV.toF (List.getD r3.1 0 TV.em))))], [])))))
   (some ([.fz (FV.bool false)], [])))))
  (some ([.fz (FV.bool false)], [])))) := by kernel_rfl
/-! keyhole/keyholelaw09.lives -/
def A_law09_lives : AFunc := ⟨0, [(.tmp 0, .fz)], .seq (.region [⟨(some 0), .mov (.c (.fz (.bool false))), none, some .bool⟩])
 (.seq (.region [⟨(some 5), .call N_ref01_Sort [((.c (.fz (.int .i64 0))), .fz)] [.fz], none, none⟩,
   ⟨(some 6), .call N_level_New [((.t 5), .fz)] [.fz, .fz], none, none⟩,
   ⟨(some 4), .mov (.t 6), none, none⟩,
   ⟨(some 7), .extract (.t 4) 0, none, none⟩,
   ⟨(some 8), .extract (.t 4) 1, none, some (.int .i64)⟩,
   ⟨(some 1), .mov (.t 7), none, none⟩,
   ⟨(some 2), .mov (.t 8), none, some (.int .i64)⟩])
  (.seq (.region [⟨(some 9), .mov (.t 1), none, none⟩,
    ⟨(some 10), .mov (.t 1), none, none⟩,
    ⟨(some 11), .build 6 [.fz (.int .i64 0), .fz (.int .i64 0), .fz (.int .i64 0), .fz (.str ⟨#[]⟩), .nils, .nils] [], none, none⟩,
    ⟨(some 12), .call N_node_Mark [((.t 10), .fz), ((.t 11), .fz), ((.c (.fz (.int .i64 1))), .fz)] [.fz], none, none⟩,
    ⟨(some 13), .buildSl 8 true 1 (.ag [.int .i64 0, .int .i64 0, .int .i64 0, .int .i64 0, .int .i64 0, .str ⟨#[]⟩, .sl [], .sl []]) [(0, (.t 12))], none, none⟩,
    ⟨(some 14), .call N_node_Array [((.t 9), .fz), ((.c (.fz (.int .i64 0))), .fz), ((.t 13), .fz)] [.fz], none, none⟩,
    ⟨(some 3), .alloc 8 true (.ag [.fz (.int .i64 0), .fz (.int .i64 0), .fz (.int .i64 0), .fz (.int .i64 0), .fz (.int .i64 0), .fz (.str ⟨#[]⟩), .nils, .nils]), none, none⟩,
    ⟨none, .store 8 true (.t 3) (.t 14), none, none⟩])
   (.seq (.region [⟨(some 15), .mov (.t 2), none, some (.int .i64)⟩,
     ⟨(some 16), .binI .eql .i64 (.t 15) (.c (.fz (.int .i64 0))), none, some .bool⟩,
     ⟨(some 17), .mov (.t 16), none, some .bool⟩,
     ⟨(some 18), .fadr 0 (.t 3), (some (17, true)), none⟩,
     ⟨(some 19), .load 1 false (.t 18), (some (17, true)), some (.int .i64)⟩,
     ⟨(some 20), .binI .eql .i64 (.t 19) (.c (.fz (.int .i64 0))), (some (17, true)), some .bool⟩,
     ⟨(some 21), .pick (.t 17) (.t 20) (.c (.fz (.bool false))), none, some .bool⟩,
     ⟨(some 22), .mov (.t 21), none, some .bool⟩,
     ⟨(some 23), .fadr 1 (.t 3), (some (22, true)), none⟩,
     ⟨(some 24), .load 1 false (.t 23), (some (22, true)), some (.int .i64)⟩,
     ⟨(some 25), .binI .eql .i64 (.t 24) (.c (.fz (.int .i64 1))), (some (22, true)), some .bool⟩,
     ⟨(some 26), .pick (.t 22) (.t 25) (.c (.fz (.bool false))), none, some .bool⟩,
     ⟨(some 0), .mov (.t 26), none, some .bool⟩])
    (.ret))))⟩
theorem E_law09_lives (R : Orc) (k : Nat) (w : Bool) : callL R k w A_law09_lives [] = onR (R N_ref01_Sort [.fz (FV.int .i64 0)]) fun r0 => when (List.isEmpty r0.2 && allF [.fz] r0.1) (onR (R N_level_New [.fz (TV.toF (List.getD r0.1 0 TV.em))]) fun r1 => when (List.isEmpty r1.2 && allF [.fz, .fz] r1.1) (when (FV.isInt .i64 (TV.toF (List.getD r1.1 1 TV.em))) (onR (R N_node_Mark [.fz (TV.toF (List.getD r1.1 0 TV.em)), .fz (FV.ag [(FV.int .i64 0), (FV.int .i64 0), (FV.int .i64 0), (FV.str (⟨#[]⟩ : ByteArray)), (FV.sl []), (FV.sl [])]), .fz (FV.int .i64 1)]) fun r2 => when (List.isEmpty r2.2 && allF [.fz] r2.1) (when (((FV.fits 8 true (TV.toF (List.getD r2.1 0 TV.em))) && true) && true) (onR (R N_node_Array [.fz (TV.toF (List.getD r1.1 0 TV.em)), .fz (FV.int .i64 0), .fz (FV.sl [(TV.toF (List.getD r2.1 0 TV.em))])]) fun r3 => when (List.isEmpty r3.2 && allF [.fz] r3.1) (when (FV.fits 8 true (TV.toF (List.getD r3.1 0 TV.em))) (ifB ((FV.toInt (TV.toF (List.getD r1.1 1 TV.em))) == 0)
  (when (FV.isAg 8 (TV.toF (List.getD r3.1 0 TV.em))) (when (FV.isInt .i64 (FV.cell (TV.toF (List.getD r3.1 0 TV.em)) 0)) (ifB ((FV.toInt (FV.cell (TV.toF (List.getD r3.1 0 TV.em)) 0)) == 0)
   (when (FV.isAg 8 (TV.toF (List.getD r3.1 0 TV.em))) (when (FV.isInt .i64 (FV.cell (TV.toF (List.getD r3.1 0 TV.em)) 1)) (some ([.fz (FV.bool ((FV.toInt (FV.cell (TV.toF (List.getD r3.1 0 TV.em)) 1)) == 1))], []))))
   (some ([.fz (FV.bool false)], [])))))
  (some ([.fz (FV.bool false)], []))))))))) := by kernel_rfl
/-! keyhole/node.Raise -/
def A_node_Raise : AFunc := ⟨3, [(.cell 6 8 true, .fz)], .seq (.region [⟨(some 4), .box 8 true (.t 1), none, none⟩,
  ⟨(some 6), .alloc 8 true (.ag [.fz (.int .i64 0), .fz (.int .i64 0), .fz (.int .i64 0), .fz (.int .i64 0), .fz (.int .i64 0), .fz (.str ⟨#[]⟩), .nils, .nils]), none, none⟩])
 (.seq (.draws [⟨⟨(some 7), .mov (.t 0), none, none⟩, []⟩,
   ⟨⟨(some 8), .fadr 0 (.t 4), none, none⟩, []⟩,
   ⟨⟨(some 9), .load 1 false (.t 8), none, some (.int .i64)⟩, [1]⟩,
   ⟨⟨(some 10), .mov (.t 2), none, some (.int .i64)⟩, []⟩,
   ⟨⟨(some 11), .call N_level_Lattice_Join [((.t 7), .fz), ((.t 9), .fz), ((.t 10), .fz)] [.fz], none, some (.int .i64)⟩, [0, 2, 3]⟩,
   ⟨⟨(some 12), .mov (.t 0), none, none⟩, []⟩,
   ⟨⟨(some 13), .fadr 1 (.t 4), none, none⟩, []⟩,
   ⟨⟨(some 14), .load 1 false (.t 13), none, some (.int .i64)⟩, [6]⟩,
   ⟨⟨(some 15), .mov (.t 2), none, some (.int .i64)⟩, []⟩,
   ⟨⟨(some 16), .call N_level_Lattice_Join [((.t 12), .fz), ((.t 14), .fz), ((.t 15), .fz)] [.fz], none, some (.int .i64)⟩, [5, 7, 8, 4]⟩,
   ⟨⟨(some 17), .fadr 0 (.t 4), none, none⟩, [0, 1, 2, 3, 4, 6, 7]⟩,
   ⟨⟨none, .store 1 false (.t 17) (.t 11), none, none⟩, [10, 4, 9, 0, 1, 2, 3, 4, 6, 7]⟩,
   ⟨⟨(some 18), .fadr 1 (.t 4), none, none⟩, [0, 1, 2, 3, 4, 5, 6, 7, 8, 9, 10, 11]⟩,
   ⟨⟨none, .store 1 false (.t 18) (.t 16), none, none⟩, [12, 9, 11, 0, 1, 2, 3, 4, 5, 6, 7, 8, 9, 10, 11]⟩])
  (.seq (.region [⟨(some 19), .load 8 true (.t 4), none, none⟩,
    ⟨none, .store 8 true (.t 6) (.t 19), none, none⟩])
   (.ret)))⟩
theorem E_node_Raise (R : Orc) (k : Nat) (w : Bool) (a0 : FV) (a1_0 : Int) (a1_1 : Int) (a1_2 : Int) (a1_3_0 : Int) (a1_3_1 : Int) (a1_4 : ByteArray) (a1_5 : List FV) (a1_6 : List FV) (a2 : Int) : callL R k w A_node_Raise [.fz (FV.pt 195 true a0 0), .fz (FV.ag [(FV.int .i64 a1_0), (FV.int .i64 a1_1), (FV.int .i64 a1_2), (FV.int .i64 a1_3_0), (FV.int .i64 a1_3_1), (FV.str a1_4), (FV.sl a1_5), (FV.sl a1_6)]), .fz (FV.int .i64 a2)] = onR (R N_level_Lattice_Join [.fz (FV.pt 195 true a0 0), .fz (FV.int .i64 a1_0), .fz (FV.int .i64 a2)]) fun r0 => when (List.isEmpty r0.2 && allF [.fz] r0.1) (when (FV.isInt .i64 (TV.toF (List.getD r0.1 0 TV.em))) (onR (R N_level_Lattice_Join [.fz (FV.pt 195 true a0 0), .fz (FV.int .i64 a1_1), .fz (FV.int .i64 a2)]) fun r1 => when (List.isEmpty r1.2 && allF [.fz] r1.1) (when (FV.isInt .i64 (TV.toF (List.getD r1.1 0 TV.em))) (some ([.fz (FV.ag [(FV.int .i64 (FV.toInt (TV.toF (List.getD r0.1 0 TV.em)))), (FV.int .i64 (FV.toInt (TV.toF (List.getD r1.1 0 TV.em)))), (FV.int .i64 a1_2), (FV.int .i64 a1_3_0), (FV.int .i64 a1_3_1), (FV.str a1_4), (FV.sl a1_5), (FV.sl a1_6)])], []))))) := by kernel_rfl
/-! keyhole/node.Same -/
def A_node_Same_b1 : ACode := .seq (.region [⟨(some 62), .binI .lss .i64 (.t 61) (.t 60), none, some .bool⟩])
 (.seq (.cond (.t 62) (.skip)
   (.exit 0))
  (.seq (.block 1 (.seq (.region [⟨(some 63), .mov (.t 61), none, some (.int .i64)⟩,
      ⟨(some 5), .mov (.t 63), none, some (.int .i64)⟩])
     (.seq (.draws [⟨⟨(some 64), .fadr 7 (.t 2), none, none⟩, []⟩,
       ⟨⟨(some 65), .load 1 false (.t 64), none, none⟩, [0]⟩,
       ⟨⟨(some 66), .mov (.t 5), none, some (.int .i64)⟩, []⟩,
       ⟨⟨(some 67), .iadr (.sl 1 false) (.t 65) (.t 66), none, none⟩, [1, 2]⟩,
       ⟨⟨(some 68), .load 1 false (.t 67), none, some .str⟩, [3]⟩,
       ⟨⟨(some 69), .fadr 7 (.t 3), none, none⟩, []⟩,
       ⟨⟨(some 70), .load 1 false (.t 69), none, none⟩, [5]⟩,
       ⟨⟨(some 71), .mov (.t 5), none, some (.int .i64)⟩, []⟩,
       ⟨⟨(some 72), .iadr (.sl 1 false) (.t 70) (.t 71), none, none⟩, [6, 7]⟩,
       ⟨⟨(some 73), .load 1 false (.t 72), none, some .str⟩, [8]⟩,
       ⟨⟨(some 74), .binS .neq (.t 68) (.t 73), none, some .bool⟩, [4, 9]⟩])
      (.cond (.t 74) (.seq (.region [⟨(some 4), .mov (.c (.fz (.bool false))), none, some .bool⟩])
        (.ret))
       (.skip)))))
   (.region [⟨(some 75), .binI .add .i64 (.t 61) (.c (.fz (.int .i64 1))), none, some (.int .i64)⟩,
    ⟨(some 61), .mov (.t 75), none, some (.int .i64)⟩])))
def A_node_Same_b2 : ACode := .seq (.region [⟨(some 80), .binI .lss .i64 (.t 79) (.t 78), none, some .bool⟩])
 (.seq (.cond (.t 80) (.skip)
   (.exit 2))
  (.seq (.block 3 (.seq (.region [⟨(some 81), .mov (.t 79), none, some (.int .i64)⟩,
      ⟨(some 6), .mov (.t 81), none, some (.int .i64)⟩])
     (.seq (.draws [⟨⟨(some 82), .fadr 6 (.t 2), none, none⟩, []⟩,
       ⟨⟨(some 83), .load 1 false (.t 82), none, none⟩, [0]⟩,
       ⟨⟨(some 84), .mov (.t 6), none, some (.int .i64)⟩, []⟩,
       ⟨⟨(some 85), .iadr (.sl 8 true) (.t 83) (.t 84), none, none⟩, [1, 2]⟩,
       ⟨⟨(some 86), .load 8 true (.t 85), none, none⟩, [3]⟩,
       ⟨⟨(some 87), .fadr 6 (.t 3), none, none⟩, []⟩,
       ⟨⟨(some 88), .load 1 false (.t 87), none, none⟩, [5]⟩,
       ⟨⟨(some 89), .mov (.t 6), none, some (.int .i64)⟩, []⟩,
       ⟨⟨(some 90), .iadr (.sl 8 true) (.t 88) (.t 89), none, none⟩, [6, 7]⟩,
       ⟨⟨(some 91), .load 8 true (.t 90), none, none⟩, [8]⟩,
       ⟨⟨(some 92), .call N_node_Same [((.t 86), .fz), ((.t 91), .fz)] [.fz], none, some .bool⟩, [4, 9]⟩,
       ⟨⟨(some 93), .notB (.t 92), none, some .bool⟩, [10]⟩])
      (.cond (.t 93) (.seq (.region [⟨(some 4), .mov (.c (.fz (.bool false))), none, some .bool⟩])
        (.ret))
       (.skip)))))
   (.region [⟨(some 94), .binI .add .i64 (.t 79) (.c (.fz (.int .i64 1))), none, some (.int .i64)⟩,
    ⟨(some 79), .mov (.t 94), none, some (.int .i64)⟩])))
def A_node_Same_s1 : ACode := .seq (.region [⟨(some 4), .mov (.c (.fz (.bool true))), none, some .bool⟩])
 (.ret)
def A_node_Same_s2 : ACode := .seq (.seq (.region [⟨(some 76), .fadr 6 (.t 2), none, none⟩,
   ⟨(some 77), .load 1 false (.t 76), none, none⟩,
   ⟨(some 78), .len (.sl 8 true) (.t 77), none, some (.int .i64)⟩,
   ⟨(some 79), .mov (.c (.fz (.int .i64 0))), none, some (.int .i64)⟩])
  (.block 2 (.loop [2, 3, 78, 79] [4] A_node_Same_b2)))
 A_node_Same_s1
def A_node_Same_j3 : ACode := .seq (.seq (.region [⟨(some 58), .fadr 7 (.t 2), none, none⟩,
   ⟨(some 59), .load 1 false (.t 58), none, none⟩,
   ⟨(some 60), .len (.sl 1 false) (.t 59), none, some (.int .i64)⟩,
   ⟨(some 61), .mov (.c (.fz (.int .i64 0))), none, some (.int .i64)⟩])
  (.block 0 (.loop [2, 3, 60, 61] [2, 3, 4] A_node_Same_b1)))
 A_node_Same_s2
def A_node_Same : AFunc := ⟨2, [(.tmp 4, .fz)], .seq (.region [⟨(some 2), .box 8 true (.t 0), none, none⟩,
  ⟨(some 3), .box 8 true (.t 1), none, none⟩,
  ⟨(some 4), .mov (.c (.fz (.bool false))), none, some .bool⟩])
 (.seq (.seq (.region [⟨(some 7), .fadr 0 (.t 2), none, none⟩,
    ⟨(some 8), .load 1 false (.t 7), none, some (.int .i64)⟩,
    ⟨(some 9), .fadr 0 (.t 3), none, none⟩,
    ⟨(some 10), .load 1 false (.t 9), none, some (.int .i64)⟩,
    ⟨(some 11), .binI .neq .i64 (.t 8) (.t 10), none, some .bool⟩,
    ⟨(some 12), .mov (.t 11), none, some .bool⟩,
    ⟨(some 13), .fadr 1 (.t 2), (some (12, false)), none⟩,
    ⟨(some 14), .load 1 false (.t 13), (some (12, false)), some (.int .i64)⟩,
    ⟨(some 15), .fadr 1 (.t 3), (some (12, false)), none⟩,
    ⟨(some 16), .load 1 false (.t 15), (some (12, false)), some (.int .i64)⟩,
    ⟨(some 17), .binI .neq .i64 (.t 14) (.t 16), (some (12, false)), some .bool⟩,
    ⟨(some 18), .pick (.t 12) (.c (.fz (.bool true))) (.t 17), none, some .bool⟩,
    ⟨(some 19), .mov (.t 18), none, some .bool⟩,
    ⟨(some 20), .fadr 2 (.t 2), (some (19, false)), none⟩,
    ⟨(some 21), .load 1 false (.t 20), (some (19, false)), some (.int .i64)⟩,
    ⟨(some 22), .fadr 2 (.t 3), (some (19, false)), none⟩,
    ⟨(some 23), .load 1 false (.t 22), (some (19, false)), some (.int .i64)⟩,
    ⟨(some 24), .binI .neq .i64 (.t 21) (.t 23), (some (19, false)), some .bool⟩,
    ⟨(some 25), .pick (.t 19) (.c (.fz (.bool true))) (.t 24), none, some .bool⟩,
    ⟨(some 26), .mov (.t 25), none, some .bool⟩,
    ⟨(some 27), .fadr 3 (.t 2), (some (26, false)), none⟩,
    ⟨(some 28), .load 2 true (.t 27), (some (26, false)), none⟩,
    ⟨(some 29), .fadr 3 (.t 3), (some (26, false)), none⟩,
    ⟨(some 30), .load 2 true (.t 29), (some (26, false)), none⟩,
    ⟨(some 31), .eqA true [.int .i64, .int .i64] (.t 28) (.t 30), (some (26, false)), some .bool⟩,
    ⟨(some 32), .pick (.t 26) (.c (.fz (.bool true))) (.t 31), none, some .bool⟩,
    ⟨(some 33), .mov (.t 32), none, some .bool⟩,
    ⟨(some 34), .fadr 5 (.t 2), (some (33, false)), none⟩,
    ⟨(some 35), .load 1 false (.t 34), (some (33, false)), some .str⟩,
    ⟨(some 36), .fadr 5 (.t 3), (some (33, false)), none⟩,
    ⟨(some 37), .load 1 false (.t 36), (some (33, false)), some .str⟩,
    ⟨(some 38), .binS .neq (.t 35) (.t 37), (some (33, false)), some .bool⟩,
    ⟨(some 39), .pick (.t 33) (.c (.fz (.bool true))) (.t 38), none, some .bool⟩,
    ⟨(some 40), .mov (.t 39), none, some .bool⟩,
    ⟨(some 41), .fadr 6 (.t 2), (some (40, false)), none⟩,
    ⟨(some 42), .load 1 false (.t 41), (some (40, false)), none⟩,
    ⟨(some 43), .len (.sl 8 true) (.t 42), (some (40, false)), some (.int .i64)⟩,
    ⟨(some 44), .fadr 6 (.t 3), (some (40, false)), none⟩,
    ⟨(some 45), .load 1 false (.t 44), (some (40, false)), none⟩,
    ⟨(some 46), .len (.sl 8 true) (.t 45), (some (40, false)), some (.int .i64)⟩,
    ⟨(some 47), .binI .neq .i64 (.t 43) (.t 46), (some (40, false)), some .bool⟩,
    ⟨(some 48), .pick (.t 40) (.c (.fz (.bool true))) (.t 47), none, some .bool⟩,
    ⟨(some 49), .mov (.t 48), none, some .bool⟩,
    ⟨(some 50), .fadr 7 (.t 2), (some (49, false)), none⟩,
    ⟨(some 51), .load 1 false (.t 50), (some (49, false)), none⟩,
    ⟨(some 52), .len (.sl 1 false) (.t 51), (some (49, false)), some (.int .i64)⟩,
    ⟨(some 53), .fadr 7 (.t 3), (some (49, false)), none⟩,
    ⟨(some 54), .load 1 false (.t 53), (some (49, false)), none⟩,
    ⟨(some 55), .len (.sl 1 false) (.t 54), (some (49, false)), some (.int .i64)⟩,
    ⟨(some 56), .binI .neq .i64 (.t 52) (.t 55), (some (49, false)), some .bool⟩,
    ⟨(some 57), .pick (.t 49) (.c (.fz (.bool true))) (.t 56), none, some .bool⟩])
   (.cond (.t 57) (.seq (.region [⟨(some 4), .mov (.c (.fz (.bool false))), none, some .bool⟩])
     (.ret))
    (.skip)))
  (.trim [2, 3] A_node_Same_j3))⟩
def J_node_Same_3_0 (R : Orc) (k : Nat) (w : Bool) (h4096_0 : Int) (h4096_1 : Int) (h4096_2 : Int) (h4096_3 : Int) (h4096_4 : Int) (h4096_5 : ByteArray) (h4096_6 : List FV) (h4096_7 : List FV) (h4097_0 : Int) (h4097_1 : Int) (h4097_2 : Int) (h4097_3 : Int) (h4097_4 : Int) (h4097_5 : ByteArray) (h4097_6 : List FV) (h4097_7 : List FV) := execL R k w [] A_node_Same_j3 Ans ⟨[(2, .ptr 4096 0 0), (3, .ptr 4097 0 0)], [(4095, .dead), (4096, .var 8 true (.fz (FV.ag [(FV.int .i64 h4096_0), (FV.int .i64 h4096_1), (FV.int .i64 h4096_2), (FV.int .i64 h4096_3), (FV.int .i64 h4096_4), (FV.str h4096_5), (FV.sl h4096_6), (FV.sl h4096_7)]))), (4097, .var 8 true (.fz (FV.ag [(FV.int .i64 h4097_0), (FV.int .i64 h4097_1), (FV.int .i64 h4097_2), (FV.int .i64 h4097_3), (FV.int .i64 h4097_4), (FV.str h4097_5), (FV.sl h4097_6), (FV.sl h4097_7)])))]⟩ (kFin R [(.tmp 4, .fz)] [])
def K_node_Same_1 (R : Orc) (k : Nat) (w : Bool) : AExit → St → Option Ans := (kBlk 0 (kSeq R k w [] A_node_Same_s2 (kFin R [(.tmp 4, .fz)] [])))
def L_node_Same_1_0 (R : Orc) (k : Nat) (w : Bool) (n : Nat) (x60 : Int) (x61 : Int) (h4096_0 : Int) (h4096_1 : Int) (h4096_2 : Int) (h4096_3 : Int) (h4096_4 : Int) (h4096_5 : ByteArray) (h4096_6 : List FV) (h4096_7 : List FV) (h4097_0 : Int) (h4097_1 : Int) (h4097_2 : Int) (h4097_3 : Int) (h4097_4 : Int) (h4097_5 : ByteArray) (h4097_6 : List FV) (h4097_7 : List FV) := loopL R k w [] [2, 3, 60, 61] [2, 3, 4] A_node_Same_b1 n ⟨[(2, .ptr 4096 0 0), (3, .ptr 4097 0 0), (60, .fz (FV.int .i64 x60)), (61, .fz (FV.int .i64 x61))], [(4095, .dead), (4096, .var 8 true (.fz (FV.ag [(FV.int .i64 h4096_0), (FV.int .i64 h4096_1), (FV.int .i64 h4096_2), (FV.int .i64 h4096_3), (FV.int .i64 h4096_4), (FV.str h4096_5), (FV.sl h4096_6), (FV.sl h4096_7)]))), (4097, .var 8 true (.fz (FV.ag [(FV.int .i64 h4097_0), (FV.int .i64 h4097_1), (FV.int .i64 h4097_2), (FV.int .i64 h4097_3), (FV.int .i64 h4097_4), (FV.str h4097_5), (FV.sl h4097_6), (FV.sl h4097_7)])))]⟩
def X_node_Same_1_0 (x4 : Bool) (h4096_0 : Int) (h4096_1 : Int) (h4096_2 : Int) (h4096_3 : Int) (h4096_4 : Int) (h4096_5 : ByteArray) (h4096_6 : List FV) (h4096_7 : List FV) (h4097_0 : Int) (h4097_1 : Int) (h4097_2 : Int) (h4097_3 : Int) (h4097_4 : Int) (h4097_5 : ByteArray) (h4097_6 : List FV) (h4097_7 : List FV) : St := ⟨[(2, .ptr 4096 0 0), (3, .ptr 4097 0 0), (4, .fz (FV.bool x4))], [(4095, .dead), (4096, .var 8 true (.fz (FV.ag [(FV.int .i64 h4096_0), (FV.int .i64 h4096_1), (FV.int .i64 h4096_2), (FV.int .i64 h4096_3), (FV.int .i64 h4096_4), (FV.str h4096_5), (FV.sl h4096_6), (FV.sl h4096_7)]))), (4097, .var 8 true (.fz (FV.ag [(FV.int .i64 h4097_0), (FV.int .i64 h4097_1), (FV.int .i64 h4097_2), (FV.int .i64 h4097_3), (FV.int .i64 h4097_4), (FV.str h4097_5), (FV.sl h4097_6), (FV.sl h4097_7)])))]⟩
def X_node_Same_1_1 (h4096_0 : Int) (h4096_1 : Int) (h4096_2 : Int) (h4096_3 : Int) (h4096_4 : Int) (h4096_5 : ByteArray) (h4096_6 : List FV) (h4096_7 : List FV) (h4097_0 : Int) (h4097_1 : Int) (h4097_2 : Int) (h4097_3 : Int) (h4097_4 : Int) (h4097_5 : ByteArray) (h4097_6 : List FV) (h4097_7 : List FV) : St := ⟨[(2, .ptr 4096 0 0), (3, .ptr 4097 0 0)], [(4095, .dead), (4096, .var 8 true (.fz (FV.ag [(FV.int .i64 h4096_0), (FV.int .i64 h4096_1), (FV.int .i64 h4096_2), (FV.int .i64 h4096_3), (FV.int .i64 h4096_4), (FV.str h4096_5), (FV.sl h4096_6), (FV.sl h4096_7)]))), (4097, .var 8 true (.fz (FV.ag [(FV.int .i64 h4097_0), (FV.int .i64 h4097_1), (FV.int .i64 h4097_2), (FV.int .i64 h4097_3), (FV.int .i64 h4097_4), (FV.str h4097_5), (FV.sl h4097_6), (FV.sl h4097_7)])))]⟩
def K_node_Same_2 (R : Orc) (k : Nat) (w : Bool) : AExit → St → Option Ans := (kBlk 2 (kSeq R k w [] A_node_Same_s1 (kFin R [(.tmp 4, .fz)] [])))
def L_node_Same_2_0 (R : Orc) (k : Nat) (w : Bool) (n : Nat) (x78 : Int) (x79 : Int) (h4096_0 : Int) (h4096_1 : Int) (h4096_2 : Int) (h4096_3 : Int) (h4096_4 : Int) (h4096_5 : ByteArray) (h4096_6 : List FV) (h4096_7 : List FV) (h4097_0 : Int) (h4097_1 : Int) (h4097_2 : Int) (h4097_3 : Int) (h4097_4 : Int) (h4097_5 : ByteArray) (h4097_6 : List FV) (h4097_7 : List FV) := loopL R k w [] [2, 3, 78, 79] [4] A_node_Same_b2 n ⟨[(2, .ptr 4096 0 0), (3, .ptr 4097 0 0), (78, .fz (FV.int .i64 x78)), (79, .fz (FV.int .i64 x79))], [(4095, .dead), (4096, .var 8 true (.fz (FV.ag [(FV.int .i64 h4096_0), (FV.int .i64 h4096_1), (FV.int .i64 h4096_2), (FV.int .i64 h4096_3), (FV.int .i64 h4096_4), (FV.str h4096_5), (FV.sl h4096_6), (FV.sl h4096_7)]))), (4097, .var 8 true (.fz (FV.ag [(FV.int .i64 h4097_0), (FV.int .i64 h4097_1), (FV.int .i64 h4097_2), (FV.int .i64 h4097_3), (FV.int .i64 h4097_4), (FV.str h4097_5), (FV.sl h4097_6), (FV.sl h4097_7)])))]⟩
def X_node_Same_2_0 (x4 : Bool) : St := ⟨[(4, .fz (FV.bool x4))], [(4095, .dead)]⟩
def X_node_Same_2_1 : St := ⟨[], [(4095, .dead)]⟩
theorem E_node_Same (R : Orc) (k : Nat) (w : Bool) (a0_0 : Int) (a0_1 : Int) (a0_2 : Int) (a0_3_0 : Int) (a0_3_1 : Int) (a0_4 : ByteArray) (a0_5 : List FV) (a0_6 : List FV) (a1_0 : Int) (a1_1 : Int) (a1_2 : Int) (a1_3_0 : Int) (a1_3_1 : Int) (a1_4 : ByteArray) (a1_5 : List FV) (a1_6 : List FV) : callL R k w A_node_Same [.fz (FV.ag [(FV.int .i64 a0_0), (FV.int .i64 a0_1), (FV.int .i64 a0_2), (FV.int .i64 a0_3_0), (FV.int .i64 a0_3_1), (FV.str a0_4), (FV.sl a0_5), (FV.sl a0_6)]), .fz (FV.ag [(FV.int .i64 a1_0), (FV.int .i64 a1_1), (FV.int .i64 a1_2), (FV.int .i64 a1_3_0), (FV.int .i64 a1_3_1), (FV.str a1_4), (FV.sl a1_5), (FV.sl a1_6)])] = ifB (a0_0 != a1_0)
  (some ([.fz (FV.bool false)], []))
  (ifB (a0_1 != a1_1)
   (some ([.fz (FV.bool false)], []))
   (ifB (a0_2 != a1_2)
    (some ([.fz (FV.bool false)], []))
    (ifB (!((a0_3_0 == a1_3_0) && ((a0_3_1 == a1_3_1) && true)))
     (some ([.fz (FV.bool false)], []))
     (ifB (!(ByteArray.toList a0_4 == ByteArray.toList a1_4))
      (some ([.fz (FV.bool false)], []))
      (ifB ((List.length a0_5 : Int) != (List.length a1_5 : Int))
       (some ([.fz (FV.bool false)], []))
       (ifB ((List.length a0_6 : Int) != (List.length a1_6 : Int))
        (some ([.fz (FV.bool false)], []))
        (jump w (J_node_Same_3_0 R k w a0_0 a0_1 a0_2 a0_3_0 a0_3_1 a0_4 a0_5 a0_6 a1_0 a1_1 a1_2 a1_3_0 a1_3_1 a1_4 a1_5 a1_6)))))))) := by kernel_rfl
theorem J_node_Same_3_0_eq (R : Orc) (k : Nat) (w : Bool) (h4096_0 : Int) (h4096_1 : Int) (h4096_2 : Int) (h4096_3 : Int) (h4096_4 : Int) (h4096_5 : ByteArray) (h4096_6 : List FV) (h4096_7 : List FV) (h4097_0 : Int) (h4097_1 : Int) (h4097_2 : Int) (h4097_3 : Int) (h4097_4 : Int) (h4097_5 : ByteArray) (h4097_6 : List FV) (h4097_7 : List FV) : J_node_Same_3_0 R k w h4096_0 h4096_1 h4096_2 h4096_3 h4096_4 h4096_5 h4096_6 h4096_7 h4097_0 h4097_1 h4097_2 h4097_3 h4097_4 h4097_5 h4097_6 h4097_7 = onL (L_node_Same_1_0 R k w k (List.length h4096_7 : Int) 0 h4096_0 h4096_1 h4096_2 h4096_3 h4096_4 h4096_5 h4096_6 h4096_7 h4097_0 h4097_1 h4097_2 h4097_3 h4097_4 h4097_5 h4097_6 h4097_7) (K_node_Same_1 R k w) := by kernel_rfl
theorem L_node_Same_1_0_eq (R : Orc) (k : Nat) (w : Bool) (n : Nat) (x60 : Int) (x61 : Int) (h4096_0 : Int) (h4096_1 : Int) (h4096_2 : Int) (h4096_3 : Int) (h4096_4 : Int) (h4096_5 : ByteArray) (h4096_6 : List FV) (h4096_7 : List FV) (h4097_0 : Int) (h4097_1 : Int) (h4097_2 : Int) (h4097_3 : Int) (h4097_4 : Int) (h4097_5 : ByteArray) (h4097_6 : List FV) (h4097_7 : List FV) : L_node_Same_1_0 R k w (n + 1) x60 x61 h4096_0 h4096_1 h4096_2 h4096_3 h4096_4 h4096_5 h4096_6 h4096_7 h4097_0 h4097_1 h4097_2 h4097_3 h4097_4 h4097_5 h4097_6 h4097_7 = ifB (decide (x61 < x60))
  (when ((decide (0 ≤ x61)) && (decide (x61 < (List.length h4096_7 : Int)))) (when (FV.fits 1 false (List.getD h4096_7 (Int.toNat x61) FV.nilp)) (when (FV.isStr (List.getD h4096_7 (Int.toNat x61) FV.nilp)) (when ((decide (0 ≤ x61)) && (decide (x61 < (List.length h4097_7 : Int)))) (when (FV.fits 1 false (List.getD h4097_7 (Int.toNat x61) FV.nilp)) (when (FV.isStr (List.getD h4097_7 (Int.toNat x61) FV.nilp)) (ifB (!(ByteArray.toList (FV.toStr (List.getD h4096_7 (Int.toNat x61) FV.nilp)) == ByteArray.toList (FV.toStr (List.getD h4097_7 (Int.toNat x61) FV.nilp))))
   (some (.ret, X_node_Same_1_0 false h4096_0 h4096_1 h4096_2 h4096_3 h4096_4 h4096_5 h4096_6 h4096_7 h4097_0 h4097_1 h4097_2 h4097_3 h4097_4 h4097_5 h4097_6 h4097_7))
   (L_node_Same_1_0 R k w n x60 (IntKind.wrap .i64 (x61 + 1)) h4096_0 h4096_1 h4096_2 h4096_3 h4096_4 h4096_5 h4096_6 h4096_7 h4097_0 h4097_1 h4097_2 h4097_3 h4097_4 h4097_5 h4097_6 h4097_7))))))))
  (some ((.exit 0), X_node_Same_1_1 h4096_0 h4096_1 h4096_2 h4096_3 h4096_4 h4096_5 h4096_6 h4096_7 h4097_0 h4097_1 h4097_2 h4097_3 h4097_4 h4097_5 h4097_6 h4097_7)) := by kernel_rfl
theorem X_node_Same_1_0_eq (R : Orc) (k : Nat) (w : Bool) (x4 : Bool) (h4096_0 : Int) (h4096_1 : Int) (h4096_2 : Int) (h4096_3 : Int) (h4096_4 : Int) (h4096_5 : ByteArray) (h4096_6 : List FV) (h4096_7 : List FV) (h4097_0 : Int) (h4097_1 : Int) (h4097_2 : Int) (h4097_3 : Int) (h4097_4 : Int) (h4097_5 : ByteArray) (h4097_6 : List FV) (h4097_7 : List FV) : K_node_Same_1 R k w .ret (X_node_Same_1_0 x4 h4096_0 h4096_1 h4096_2 h4096_3 h4096_4 h4096_5 h4096_6 h4096_7 h4097_0 h4097_1 h4097_2 h4097_3 h4097_4 h4097_5 h4097_6 h4097_7) = some ([.fz (FV.bool x4)], []) := by kernel_rfl
theorem X_node_Same_1_1_eq (R : Orc) (k : Nat) (w : Bool) (h4096_0 : Int) (h4096_1 : Int) (h4096_2 : Int) (h4096_3 : Int) (h4096_4 : Int) (h4096_5 : ByteArray) (h4096_6 : List FV) (h4096_7 : List FV) (h4097_0 : Int) (h4097_1 : Int) (h4097_2 : Int) (h4097_3 : Int) (h4097_4 : Int) (h4097_5 : ByteArray) (h4097_6 : List FV) (h4097_7 : List FV) : K_node_Same_1 R k w (.exit 0) (X_node_Same_1_1 h4096_0 h4096_1 h4096_2 h4096_3 h4096_4 h4096_5 h4096_6 h4096_7 h4097_0 h4097_1 h4097_2 h4097_3 h4097_4 h4097_5 h4097_6 h4097_7) = onL (L_node_Same_2_0 R k w k (List.length h4096_6 : Int) 0 h4096_0 h4096_1 h4096_2 h4096_3 h4096_4 h4096_5 h4096_6 h4096_7 h4097_0 h4097_1 h4097_2 h4097_3 h4097_4 h4097_5 h4097_6 h4097_7) (K_node_Same_2 R k w) := by kernel_rfl
theorem L_node_Same_2_0_eq (R : Orc) (k : Nat) (w : Bool) (n : Nat) (x78 : Int) (x79 : Int) (h4096_0 : Int) (h4096_1 : Int) (h4096_2 : Int) (h4096_3 : Int) (h4096_4 : Int) (h4096_5 : ByteArray) (h4096_6 : List FV) (h4096_7 : List FV) (h4097_0 : Int) (h4097_1 : Int) (h4097_2 : Int) (h4097_3 : Int) (h4097_4 : Int) (h4097_5 : ByteArray) (h4097_6 : List FV) (h4097_7 : List FV) : L_node_Same_2_0 R k w (n + 1) x78 x79 h4096_0 h4096_1 h4096_2 h4096_3 h4096_4 h4096_5 h4096_6 h4096_7 h4097_0 h4097_1 h4097_2 h4097_3 h4097_4 h4097_5 h4097_6 h4097_7 = ifB (decide (x79 < x78))
  (when ((decide (0 ≤ x79)) && (decide (x79 < (List.length h4096_6 : Int)))) (when (FV.fits 8 true (List.getD h4096_6 (Int.toNat x79) FV.nilp)) (when ((decide (0 ≤ x79)) && (decide (x79 < (List.length h4097_6 : Int)))) (when (FV.fits 8 true (List.getD h4097_6 (Int.toNat x79) FV.nilp)) (onR (R N_node_Same [.fz (List.getD h4096_6 (Int.toNat x79) FV.nilp), .fz (List.getD h4097_6 (Int.toNat x79) FV.nilp)]) fun r0 => when (List.isEmpty r0.2 && allF [.fz] r0.1) (when (FV.isBool (TV.toF (List.getD r0.1 0 TV.em))) (ifB (!(FV.toBool (TV.toF (List.getD r0.1 0 TV.em))))
   (some (.ret, X_node_Same_2_0 false))
   (L_node_Same_2_0 R k w n x78 (IntKind.wrap .i64 (x79 + 1)) h4096_0 h4096_1 h4096_2 h4096_3 h4096_4 h4096_5 h4096_6 h4096_7 h4097_0 h4097_1 h4097_2 h4097_3 h4097_4 h4097_5 h4097_6 h4097_7))))))))
  (some ((.exit 2), X_node_Same_2_1)) := by kernel_rfl
theorem X_node_Same_2_0_eq (R : Orc) (k : Nat) (w : Bool) (x4 : Bool) : K_node_Same_2 R k w .ret (X_node_Same_2_0 x4) = some ([.fz (FV.bool x4)], []) := by kernel_rfl
theorem X_node_Same_2_1_eq (R : Orc) (k : Nat) (w : Bool) : K_node_Same_2 R k w (.exit 2) (X_node_Same_2_1) = some ([.fz (FV.bool true)], []) := by kernel_rfl
/-! (*keyhole/level.Lattice).Join -/
def A_level_Lattice_Join_j1 : ACode := .seq (.region [⟨(some 19), .mov (.t 0), none, none⟩,
  ⟨(some 20), .mov (.t 1), none, some (.int .i64)⟩,
  ⟨(some 21), .mov (.t 2), none, some (.int .i64)⟩,
  ⟨(some 22), .nilck (.t 19), none, none⟩,
  ⟨(some 23), .fadr 65 (.t 22), none, none⟩,
  ⟨(some 24), .iadr (.arr 8 8 true) (.t 23) (.t 20), none, none⟩,
  ⟨(some 25), .iadr (.arr 8 1 false) (.t 24) (.t 21), none, none⟩,
  ⟨(some 26), .load 1 false (.t 25), none, some (.int .i64)⟩,
  ⟨(some 6), .mov (.t 26), none, some (.int .i64)⟩])
 (.ret)
def A_level_Lattice_Join : AFunc := ⟨3, [(.tmp 6, .fz)], .seq (.region [⟨(some 6), .mov (.c (.fz (.int .i64 0))), none, some (.int .i64)⟩])
 (.seq (.seq (.region [⟨(some 7), .mov (.t 0), none, none⟩,
    ⟨(some 8), .mov (.t 1), none, some (.int .i64)⟩,
    ⟨(some 9), .call N_level_Lattice_Is [((.t 7), .fz), ((.t 8), .fz)] [.fz], none, some .bool⟩,
    ⟨(some 10), .notB (.t 9), none, some .bool⟩,
    ⟨(some 11), .mov (.t 10), none, some .bool⟩,
    ⟨(some 12), .mov (.t 0), (some (11, false)), none⟩,
    ⟨(some 13), .mov (.t 2), (some (11, false)), some (.int .i64)⟩,
    ⟨(some 14), .call N_level_Lattice_Is [((.t 12), .fz), ((.t 13), .fz)] [.fz], (some (11, false)), some .bool⟩,
    ⟨(some 15), .notB (.t 14), (some (11, false)), some .bool⟩,
    ⟨(some 16), .pick (.t 11) (.c (.fz (.bool true))) (.t 15), none, some .bool⟩])
   (.cond (.t 16) (.seq (.region [⟨(some 17), .mov (.t 0), none, none⟩,
      ⟨(some 18), .call N_level_Lattice_Top [((.t 17), .fz)] [.fz], none, some (.int .i64)⟩,
      ⟨(some 6), .mov (.t 18), none, some (.int .i64)⟩])
     (.ret))
    (.skip)))
  (.trim [0, 1, 2] A_level_Lattice_Join_j1))⟩
def J_level_Lattice_Join_1_0 (R : Orc) (k : Nat) (w : Bool) (x0e : FV) (x1 : Int) (x2 : Int) := execL R k w [] A_level_Lattice_Join_j1 Ans ⟨[(0, .fz (FV.pt 195 true x0e 0)), (1, .fz (FV.int .i64 x1)), (2, .fz (FV.int .i64 x2))], [(4095, .dead)]⟩ (kFin R [(.tmp 6, .fz)] [])
theorem E_level_Lattice_Join (R : Orc) (k : Nat) (w : Bool) (a0 : FV) (a1 : Int) (a2 : Int) : callL R k w A_level_Lattice_Join [.fz (FV.pt 195 true a0 0), .fz (FV.int .i64 a1), .fz (FV.int .i64 a2)] = onR (R N_level_Lattice_Is [.fz (FV.pt 195 true a0 0), .fz (FV.int .i64 a1)]) fun r0 => when (List.isEmpty r0.2 && allF [.fz] r0.1) (when (FV.isBool (TV.toF (List.getD r0.1 0 TV.em))) (ifB (!(FV.toBool (TV.toF (List.getD r0.1 0 TV.em))))
  (onR (R N_level_Lattice_Top [.fz (FV.pt 195 true a0 0)]) fun r1 => when (List.isEmpty r1.2 && allF [.fz] r1.1) (when (FV.isInt .i64 (TV.toF (List.getD r1.1 0 TV.em))) (some ([.fz (FV.int .i64 (FV.toInt (TV.toF (List.getD r1.1 0 TV.em))))], []))))
  (onR (R N_level_Lattice_Is [.fz (FV.pt 195 true a0 0), .fz (FV.int .i64 a2)]) fun r2 => when (List.isEmpty r2.2 && allF [.fz] r2.1) (when (FV.isBool (TV.toF (List.getD r2.1 0 TV.em))) (ifB (!(FV.toBool (TV.toF (List.getD r2.1 0 TV.em))))
   (onR (R N_level_Lattice_Top [.fz (FV.pt 195 true a0 0)]) fun r3 => when (List.isEmpty r3.2 && allF [.fz] r3.1) (when (FV.isInt .i64 (TV.toF (List.getD r3.1 0 TV.em))) (some ([.fz (FV.int .i64 (FV.toInt (TV.toF (List.getD r3.1 0 TV.em))))], []))))
   (jump w (J_level_Lattice_Join_1_0 R k w a0 a1 a2))))))) := by kernel_rfl
theorem J_level_Lattice_Join_1_0_eq (R : Orc) (k : Nat) (w : Bool) (x0e : FV) (x1 : Int) (x2 : Int) : J_level_Lattice_Join_1_0 R k w x0e x1 x2 = when (decide (0 ≤ x1) && decide (x1 < 8)) (when (decide (0 ≤ x2) && decide (x2 < 8)) (when (FV.isAg 195 x0e) (when (Nat.blt ((65 + ((Int.toNat x1) * 8)) + ((Int.toNat x2) * 1)) 195) (when (FV.isInt .i64 (FV.cell x0e ((65 + ((Int.toNat x1) * 8)) + ((Int.toNat x2) * 1)))) (some ([.fz (FV.int .i64 (FV.toInt (FV.cell x0e ((65 + ((Int.toNat x1) * 8)) + ((Int.toNat x2) * 1)))))], [])))))) := by kernel_rfl
/-! (*keyhole/level.Lattice).Bottom -/
def A_level_Lattice_Bottom : AFunc := ⟨1, [(.tmp 2, .fz)], .seq (.region [⟨(some 2), .mov (.c (.fz (.int .i64 0))), none, some (.int .i64)⟩])
 (.seq (.seq (.region [⟨(some 3), .mov (.t 0), none, none⟩,
    ⟨(some 4), .eqNil false (.t 3), none, some .bool⟩])
   (.cond (.t 4) (.seq (.region [⟨(some 2), .mov (.c (.fz (.int .i64 0))), none, some (.int .i64)⟩])
     (.ret))
    (.skip)))
  (.seq (.region [⟨(some 5), .mov (.t 0), none, none⟩,
    ⟨(some 6), .nilck (.t 5), none, none⟩,
    ⟨(some 7), .fadr 193 (.t 6), none, none⟩,
    ⟨(some 8), .load 1 false (.t 7), none, some (.int .i64)⟩,
    ⟨(some 2), .mov (.t 8), none, some (.int .i64)⟩])
   (.ret)))⟩
theorem E_level_Lattice_Bottom (R : Orc) (k : Nat) (w : Bool) (a0 : FV) : callL R k w A_level_Lattice_Bottom [.fz (FV.pt 195 true a0 0)] = when (FV.isAg 195 a0) (when (FV.isInt .i64 (FV.cell a0 193)) (some ([.fz (FV.int .i64 (FV.toInt (FV.cell a0 193)))], []))) := by kernel_rfl
/-! (*keyhole/level.Lattice).Leq -/
def A_level_Lattice_Leq : AFunc := ⟨3, [(.tmp 6, .fz)], .seq (.region [⟨(some 6), .mov (.c (.fz (.bool false))), none, some .bool⟩])
 (.seq (.region [⟨(some 7), .mov (.t 0), none, none⟩,
   ⟨(some 8), .mov (.t 1), none, some (.int .i64)⟩,
   ⟨(some 9), .call N_level_Lattice_Is [((.t 7), .fz), ((.t 8), .fz)] [.fz], none, some .bool⟩,
   ⟨(some 10), .mov (.t 9), none, some .bool⟩,
   ⟨(some 11), .mov (.t 0), (some (10, true)), none⟩,
   ⟨(some 12), .mov (.t 2), (some (10, true)), some (.int .i64)⟩,
   ⟨(some 13), .call N_level_Lattice_Is [((.t 11), .fz), ((.t 12), .fz)] [.fz], (some (10, true)), some .bool⟩,
   ⟨(some 14), .pick (.t 10) (.t 13) (.c (.fz (.bool false))), none, some .bool⟩,
   ⟨(some 15), .mov (.t 14), none, some .bool⟩,
   ⟨(some 16), .mov (.t 0), (some (15, true)), none⟩,
   ⟨(some 17), .mov (.t 1), (some (15, true)), some (.int .i64)⟩,
   ⟨(some 18), .mov (.t 2), (some (15, true)), some (.int .i64)⟩,
   ⟨(some 19), .nilck (.t 16), (some (15, true)), none⟩,
   ⟨(some 20), .fadr 1 (.t 19), (some (15, true)), none⟩,
   ⟨(some 21), .iadr (.arr 8 8 true) (.t 20) (.t 17), (some (15, true)), none⟩,
   ⟨(some 22), .iadr (.arr 8 1 false) (.t 21) (.t 18), (some (15, true)), none⟩,
   ⟨(some 23), .load 1 false (.t 22), (some (15, true)), some .bool⟩,
   ⟨(some 24), .pick (.t 15) (.t 23) (.c (.fz (.bool false))), none, some .bool⟩,
   ⟨(some 6), .mov (.t 24), none, some .bool⟩])
  (.ret))⟩
theorem E_level_Lattice_Leq (R : Orc) (k : Nat) (w : Bool) (a0 : FV) (a1 : Int) (a2 : Int) : callL R k w A_level_Lattice_Leq [.fz (FV.pt 195 true a0 0), .fz (FV.int .i64 a1), .fz (FV.int .i64 a2)] = onR (R N_level_Lattice_Is [.fz (FV.pt 195 true a0 0), .fz (FV.int .i64 a1)]) fun r0 => when (List.isEmpty r0.2 && allF [.fz] r0.1) (when (FV.isBool (TV.toF (List.getD r0.1 0 TV.em))) (ifB (FV.toBool (TV.toF (List.getD r0.1 0 TV.em)))
  (onR (R N_level_Lattice_Is [.fz (FV.pt 195 true a0 0), .fz (FV.int .i64 a2)]) fun r1 => when (List.isEmpty r1.2 && allF [.fz] r1.1) (when (FV.isBool (TV.toF (List.getD r1.1 0 TV.em))) (ifB (FV.toBool (TV.toF (List.getD r1.1 0 TV.em)))
   (when (decide (0 ≤ a1) && decide (a1 < 8)) (when (decide (0 ≤ a2) && decide (a2 < 8)) (when (FV.isAg 195 a0) (when (Nat.blt ((1 + ((Int.toNat a1) * 8)) + ((Int.toNat a2) * 1)) 195) (when (FV.isBool (FV.cell a0 ((1 + ((Int.toNat a1) * 8)) + ((Int.toNat a2) * 1)))) (some ([.fz (FV.bool (FV.toBool (FV.cell a0 ((1 + ((Int.toNat a1) * 8)) + ((Int.toNat a2) * 1)))))], [])))))))
   (some ([.fz (FV.bool false)], [])))))
  (some ([.fz (FV.bool false)], [])))) := by kernel_rfl
/-! keyhole/node.Item -/
def A_node_Item_j1 : ACode := .seq (.draws [⟨⟨(some 28), .mov (.t 0), none, none⟩, []⟩,
  ⟨⟨(some 29), .fadr 6 (.t 4), none, none⟩, []⟩,
  ⟨⟨(some 30), .load 1 false (.t 29), none, none⟩, [1]⟩,
  ⟨⟨(some 31), .mov (.t 2), none, some (.int .i64)⟩, []⟩,
  ⟨⟨(some 32), .iadr (.sl 8 true) (.t 30) (.t 31), none, none⟩, [2, 3]⟩,
  ⟨⟨(some 33), .load 8 true (.t 32), none, none⟩, [4]⟩,
  ⟨⟨(some 34), .fadr 0 (.t 4), none, none⟩, []⟩,
  ⟨⟨(some 35), .load 1 false (.t 34), none, some (.int .i64)⟩, [6]⟩,
  ⟨⟨(some 36), .call N_node_Raise [((.t 28), .fz), ((.t 33), .fz), ((.t 35), .fz)] [.fz], none, none⟩, [0, 5, 7]⟩,
  ⟨⟨none, .store 8 true (.t 6) (.t 36), none, none⟩, [8, 8, 0, 1, 2, 3, 4, 5, 6, 7, 8]⟩,
  ⟨⟨(some 7), .mov (.c (.fz (.bool true))), none, some .bool⟩, [9, 0, 1, 2, 3, 4, 5, 6, 7, 8, 9]⟩])
 (.ret)
def A_node_Item : AFunc := ⟨3, [(.cell 6 8 true, .fz), (.tmp 7, .fz)], .seq (.region [⟨(some 4), .box 8 true (.t 1), none, none⟩,
  ⟨(some 6), .alloc 8 true (.ag [.fz (.int .i64 0), .fz (.int .i64 0), .fz (.int .i64 0), .fz (.int .i64 0), .fz (.int .i64 0), .fz (.str ⟨#[]⟩), .nils, .nils]), none, none⟩,
  ⟨(some 7), .mov (.c (.fz (.bool false))), none, some .bool⟩])
 (.seq (.seq (.region [⟨(some 8), .fadr 2 (.t 4), none, none⟩,
    ⟨(some 9), .load 1 false (.t 8), none, some (.int .i64)⟩,
    ⟨(some 10), .binI .neq .i64 (.t 9) (.c (.fz (.int .i64 5))), none, some .bool⟩,
    ⟨(some 11), .mov (.t 10), none, some .bool⟩,
    ⟨(some 12), .fadr 2 (.t 4), (some (11, true)), none⟩,
    ⟨(some 13), .load 1 false (.t 12), (some (11, true)), some (.int .i64)⟩,
    ⟨(some 14), .binI .neq .i64 (.t 13) (.c (.fz (.int .i64 6))), (some (11, true)), some .bool⟩,
    ⟨(some 15), .pick (.t 11) (.t 14) (.c (.fz (.bool false))), none, some .bool⟩,
    ⟨(some 16), .mov (.t 15), none, some .bool⟩,
    ⟨(some 17), .mov (.t 2), (some (16, false)), some (.int .i64)⟩,
    ⟨(some 18), .binI .lss .i64 (.t 17) (.c (.fz (.int .i64 0))), (some (16, false)), some .bool⟩,
    ⟨(some 19), .pick (.t 16) (.c (.fz (.bool true))) (.t 18), none, some .bool⟩,
    ⟨(some 20), .mov (.t 19), none, some .bool⟩,
    ⟨(some 21), .mov (.t 2), (some (20, false)), some (.int .i64)⟩,
    ⟨(some 22), .fadr 6 (.t 4), (some (20, false)), none⟩,
    ⟨(some 23), .load 1 false (.t 22), (some (20, false)), none⟩,
    ⟨(some 24), .len (.sl 8 true) (.t 23), (some (20, false)), some (.int .i64)⟩,
    ⟨(some 25), .binI .geq .i64 (.t 21) (.t 24), (some (20, false)), some .bool⟩,
    ⟨(some 26), .pick (.t 20) (.c (.fz (.bool true))) (.t 25), none, some .bool⟩])
   (.cond (.t 26) (.seq (.region [⟨(some 27), .build 8 [.fz (.int .i64 0), .fz (.int .i64 0), .fz (.int .i64 0), .fz (.int .i64 0), .fz (.int .i64 0), .fz (.str ⟨#[]⟩), .nils, .nils] [], none, none⟩,
      ⟨none, .store 8 true (.t 6) (.t 27), none, none⟩,
      ⟨(some 7), .mov (.c (.fz (.bool false))), none, some .bool⟩])
     (.ret))
    (.skip)))
  (.trim [0, 2, 4, 6] A_node_Item_j1))⟩
def J_node_Item_1_0 (R : Orc) (k : Nat) (w : Bool) (x0e : FV) (x2 : Int) (h4096_0 : Int) (h4096_1 : Int) (h4096_2 : Int) (h4096_3 : Int) (h4096_4 : Int) (h4096_5 : ByteArray) (h4096_6 : List FV) (h4096_7 : List FV) (h4097_0 : Int) (h4097_1 : Int) (h4097_2 : Int) (h4097_3 : Int) (h4097_4 : Int) (h4097_5 : ByteArray) := execL R k w [] A_node_Item_j1 Ans ⟨[(0, .fz (FV.pt 195 true x0e 0)), (2, .fz (FV.int .i64 x2)), (4, .ptr 4096 0 0), (6, .ptr 4097 0 0)], [(4095, .dead), (4096, .var 8 true (.fz (FV.ag [(FV.int .i64 h4096_0), (FV.int .i64 h4096_1), (FV.int .i64 h4096_2), (FV.int .i64 h4096_3), (FV.int .i64 h4096_4), (FV.str h4096_5), (FV.sl h4096_6), (FV.sl h4096_7)]))), (4097, .var 8 true (.ag [.fz (FV.int .i64 h4097_0), .fz (FV.int .i64 h4097_1), .fz (FV.int .i64 h4097_2), .fz (FV.int .i64 h4097_3), .fz (FV.int .i64 h4097_4), .fz (FV.str h4097_5), .nils, .nils]))]⟩ (kFin R [(.cell 6 8 true, .fz), (.tmp 7, .fz)] [])
theorem E_node_Item (R : Orc) (k : Nat) (w : Bool) (a0 : FV) (a1_0 : Int) (a1_1 : Int) (a1_2 : Int) (a1_3_0 : Int) (a1_3_1 : Int) (a1_4 : ByteArray) (a1_5 : List FV) (a1_6 : List FV) (a2 : Int) : callL R k w A_node_Item [.fz (FV.pt 195 true a0 0), .fz (FV.ag [(FV.int .i64 a1_0), (FV.int .i64 a1_1), (FV.int .i64 a1_2), (FV.int .i64 a1_3_0), (FV.int .i64 a1_3_1), (FV.str a1_4), (FV.sl a1_5), (FV.sl a1_6)]), .fz (FV.int .i64 a2)] = ifB (a1_2 != 5)
  (ifB (a1_2 != 6)
   (some ([.fz (FV.ag [(FV.int .i64 0), (FV.int .i64 0), (FV.int .i64 0), (FV.int .i64 0), (FV.int .i64 0), (FV.str (⟨#[]⟩ : ByteArray)), (FV.sl []), (FV.sl [])]), .fz (FV.bool false)], []))
   (ifB (decide (a2 < 0))
    (some ([.fz (FV.ag [(FV.int .i64 0), (FV.int .i64 0), (FV.int .i64 0), (FV.int .i64 0), (FV.int .i64 0), (FV.str (⟨#[]⟩ : ByteArray)), (FV.sl []), (FV.sl [])]), .fz (FV.bool false)], []))
    (ifB (decide (a2 ≥ (List.length a1_5 : Int)))
     (some ([.fz (FV.ag [(FV.int .i64 0), (FV.int .i64 0), (FV.int .i64 0), (FV.int .i64 0), (FV.int .i64 0), (FV.str (⟨#[]⟩ : ByteArray)), (FV.sl []), (FV.sl [])]), .fz (FV.bool false)], []))
     (jump w (J_node_Item_1_0 R k w a0 a2 a1_0 a1_1 a1_2 a1_3_0 a1_3_1 a1_4 a1_5 a1_6 0 0 0 0 0 (⟨#[]⟩ : ByteArray))))))
  (ifB (decide (a2 < 0))
   (some ([.fz (FV.ag [(FV.int .i64 0), (FV.int .i64 0), (FV.int .i64 0), (FV.int .i64 0), (FV.int .i64 0), (FV.str (⟨#[]⟩ : ByteArray)), (FV.sl []), (FV.sl [])]), .fz (FV.bool false)], []))
   (ifB (decide (a2 ≥ (List.length a1_5 : Int)))
    (some ([.fz (FV.ag [(FV.int .i64 0), (FV.int .i64 0), (FV.int .i64 0), (FV.int .i64 0), (FV.int .i64 0), (FV.str (⟨#[]⟩ : ByteArray)), (FV.sl []), (FV.sl [])]), .fz (FV.bool false)], []))
    (jump w (J_node_Item_1_0 R k w a0 a2 a1_0 a1_1 a1_2 a1_3_0 a1_3_1 a1_4 a1_5 a1_6 0 0 0 0 0 (⟨#[]⟩ : ByteArray))))) := by kernel_rfl
theorem J_node_Item_1_0_eq (R : Orc) (k : Nat) (w : Bool) (x0e : FV) (x2 : Int) (h4096_0 : Int) (h4096_1 : Int) (h4096_2 : Int) (h4096_3 : Int) (h4096_4 : Int) (h4096_5 : ByteArray) (h4096_6 : List FV) (h4096_7 : List FV) (h4097_0 : Int) (h4097_1 : Int) (h4097_2 : Int) (h4097_3 : Int) (h4097_4 : Int) (h4097_5 : ByteArray) : J_node_Item_1_0 R k w x0e x2 h4096_0 h4096_1 h4096_2 h4096_3 h4096_4 h4096_5 h4096_6 h4096_7 h4097_0 h4097_1 h4097_2 h4097_3 h4097_4 h4097_5 = when ((decide (0 ≤ x2)) && (decide (x2 < (List.length h4096_6 : Int)))) (when (FV.fits 8 true (List.getD h4096_6 (Int.toNat x2) FV.nilp)) (onR (R N_node_Raise [.fz (FV.pt 195 true x0e 0), .fz (List.getD h4096_6 (Int.toNat x2) FV.nilp), .fz (FV.int .i64 h4096_0)]) fun r0 => when (List.isEmpty r0.2 && allF [.fz] r0.1) (when (FV.fits 8 true (TV.toF (List.getD r0.1 0 TV.em))) (some ([.fz (TV.toF (List.getD r0.1 0 TV.em)), .fz (FV.bool true)], []))))) := by kernel_rfl
/-! keyhole/keyholeref09.Join -/
def A_ref09_Join : AFunc := ⟨3, [(.tmp 6, .fz)], .seq (.region [⟨(some 6), .mov (.c (.fz (.int .i64 0))), none, some (.int .i64)⟩])
 (.seq (.region [⟨(some 7), .mov (.t 0), none, none⟩,
   ⟨(some 8), .mov (.t 1), none, some (.int .i64)⟩,
   ⟨(some 9), .mov (.t 2), none, some (.int .i64)⟩,
   ⟨(some 10), .call N_ref01_Join [((.t 7), .fz), ((.t 8), .fz), ((.t 9), .fz)] [.fz], none, none⟩,
   ⟨(some 11), .iadr (.sl 1 false) (.t 10) (.c (.fz (.int .i64 0))), none, none⟩,
   ⟨(some 12), .load 1 false (.t 11), none, some (.int .i64)⟩,
   ⟨(some 6), .mov (.t 12), none, some (.int .i64)⟩])
  (.ret))⟩
theorem E_ref09_Join (R : Orc) (k : Nat) (w : Bool) (a0 : List FV) (a1 : Int) (a2 : Int) : callL R k w A_ref09_Join [.fz (FV.sl a0), .fz (FV.int .i64 a1), .fz (FV.int .i64 a2)] = onR (R N_ref01_Join [.fz (FV.sl a0), .fz (FV.int .i64 a1), .fz (FV.int .i64 a2)]) fun r0 => when (List.isEmpty r0.2 && allF [.fz] r0.1) (when (FV.isSl (TV.toF (List.getD r0.1 0 TV.em))) (when (decide (0 < (List.length (FV.toSl (TV.toF (List.getD r0.1 0 TV.em))) : Int))) (when (FV.fits 1 false (List.getD (FV.toSl (TV.toF (List.getD r0.1 0 TV.em))) 0 FV.nilp)) (when (FV.isInt .i64 (List.getD (FV.toSl (TV.toF (List.getD r0.1 0 TV.em))) 0 FV.nilp)) (some ([.fz (FV.int .i64 (FV.toInt (List.getD (FV.toSl (TV.toF (List.getD r0.1 0 TV.em))) 0 FV.nilp)))], [])))))) := by kernel_rfl
end Go.Ab
