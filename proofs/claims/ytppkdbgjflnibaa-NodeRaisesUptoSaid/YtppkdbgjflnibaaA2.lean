-- Written by a program of the session, out of the translation. Lean checks it.
import Derived.Test.YtppkdbgjflnibaaA0
namespace Go.Ab
set_option linter.unusedVariables false
set_option maxRecDepth 100000
/-! keyhole/node.Is -/
def A_node_Is_b1 : ACode := .seq (.region [⟨(some 32), .binI .lss .i64 (.t 31) (.t 30), none, none⟩])
 (.seq (.cond (.t 32) (.skip)
   (.exit 0))
  (.seq (.block 1 (.seq (.region [⟨(some 33), .iadr (.sl 8 true) (.t 29) (.t 31), none, none⟩,
      ⟨(some 34), .load 8 true (.t 33), none, none⟩,
      ⟨(some 6), .alloc 8 true (.ag [.fz (.int .i64 0), .fz (.int .i64 0), .fz (.int .i64 0), .fz (.int .i64 0), .fz (.int .i64 0), .fz (.str ⟨#[]⟩), .nils, .nils]), none, none⟩,
      ⟨none, .store 8 true (.t 6) (.t 34), none, none⟩])
     (.seq (.region [⟨(some 35), .mov (.t 0), none, none⟩,
       ⟨(some 36), .load 8 true (.t 6), none, none⟩,
       ⟨(some 37), .call N_node_Is [((.t 35), .fz), ((.t 36), .fz)] [.fz], none, some .bool⟩,
       ⟨(some 38), .notB (.t 37), none, some .bool⟩])
      (.cond (.t 38) (.seq (.region [⟨(some 4), .mov (.c (.fz (.bool false))), none, some .bool⟩])
        (.ret))
       (.skip)))))
   (.region [⟨(some 39), .binI .add .i64 (.t 31) (.c (.fz (.int .i64 1))), none, some (.int .i64)⟩,
    ⟨(some 31), .mov (.t 39), none, some (.int .i64)⟩])))
def A_node_Is_s1 : ACode := .seq (.region [⟨(some 4), .mov (.c (.fz (.bool true))), none, some .bool⟩])
 (.ret)
def A_node_Is_j2 : ACode := .seq (.seq (.region [⟨(some 28), .fadr 6 (.t 3), none, none⟩,
   ⟨(some 29), .load 1 false (.t 28), none, none⟩,
   ⟨(some 30), .len (.sl 8 true) (.t 29), none, some (.int .i64)⟩,
   ⟨(some 31), .mov (.c (.fz (.int .i64 0))), none, some (.int .i64)⟩])
  (.block 0 (.loop [0, 29, 30, 31] [4] A_node_Is_b1)))
 A_node_Is_s1
def A_node_Is : AFunc := ⟨2, [(.tmp 4, .fz)], .seq (.region [⟨(some 3), .box 8 true (.t 1), none, none⟩,
  ⟨(some 4), .mov (.c (.fz (.bool false))), none, some .bool⟩])
 (.seq (.seq (.draws [⟨⟨(some 7), .mov (.t 0), none, none⟩, []⟩,
    ⟨⟨(some 8), .fadr 0 (.t 3), none, none⟩, []⟩,
    ⟨⟨(some 9), .load 1 false (.t 8), none, some (.int .i64)⟩, [1]⟩,
    ⟨⟨(some 10), .call N_level_Lattice_Is [((.t 7), .fz), ((.t 9), .fz)] [.fz], none, some .bool⟩, [0, 2]⟩,
    ⟨⟨(some 11), .notB (.t 10), none, some .bool⟩, [3]⟩,
    ⟨⟨(some 12), .mov (.t 11), none, some .bool⟩, [4, 3]⟩,
    ⟨⟨(some 13), .load 8 true (.t 3), (some (12, false)), none⟩, [5]⟩,
    ⟨⟨(some 14), .call N_node_fits [((.t 13), .fz)] [.fz], (some (12, false)), some .bool⟩, [6, 5, 5]⟩,
    ⟨⟨(some 15), .notB (.t 14), (some (12, false)), some .bool⟩, [7, 5]⟩,
    ⟨⟨(some 16), .pick (.t 12) (.c (.fz (.bool true))) (.t 15), none, some .bool⟩, [5, 8]⟩,
    ⟨⟨(some 17), .mov (.t 16), none, some .bool⟩, [9, 7]⟩,
    ⟨⟨(some 18), .fadr 1 (.t 3), (some (17, false)), none⟩, [10]⟩,
    ⟨⟨(some 19), .load 1 false (.t 18), (some (17, false)), some (.int .i64)⟩, [11, 10]⟩,
    ⟨⟨(some 20), .mov (.t 0), (some (17, false)), none⟩, [10]⟩,
    ⟨⟨(some 21), .fadr 0 (.t 3), (some (17, false)), none⟩, [10]⟩,
    ⟨⟨(some 22), .load 1 false (.t 21), (some (17, false)), some (.int .i64)⟩, [14, 10]⟩,
    ⟨⟨(some 23), .fadr 6 (.t 3), (some (17, false)), none⟩, [10]⟩,
    ⟨⟨(some 24), .load 1 false (.t 23), (some (17, false)), none⟩, [16, 10]⟩,
    ⟨⟨(some 25), .call N_node_deep [((.t 20), .fz), ((.t 22), .fz), ((.t 24), .fz)] [.fz], (some (17, false)), some (.int .i64)⟩, [13, 15, 17, 10, 10]⟩,
    ⟨⟨(some 26), .binI .neq .i64 (.t 19) (.t 25), (some (17, false)), some .bool⟩, [12, 18, 10]⟩,
    ⟨⟨(some 27), .pick (.t 17) (.c (.fz (.bool true))) (.t 26), none, some .bool⟩, [10, 19]⟩])
   (.cond (.t 27) (.seq (.region [⟨(some 4), .mov (.c (.fz (.bool false))), none, some .bool⟩])
     (.ret))
    (.skip)))
  (.trim [0, 3] A_node_Is_j2))⟩
def J_node_Is_2_0 (R : Orc) (k : Nat) (w : Bool) (x0e : FV) (h4096_0 : Int) (h4096_1 : Int) (h4096_2 : Int) (h4096_3 : Int) (h4096_4 : Int) (h4096_5 : ByteArray) (h4096_6 : List FV) (h4096_7 : List FV) := execL R k w [] A_node_Is_j2 Ans ⟨[(0, .fz (FV.pt 195 true x0e 0)), (3, .ptr 4096 0 0)], [(4095, .dead), (4096, .var 8 true (.fz (FV.ag [(FV.int .i64 h4096_0), (FV.int .i64 h4096_1), (FV.int .i64 h4096_2), (FV.int .i64 h4096_3), (FV.int .i64 h4096_4), (FV.str h4096_5), (FV.sl h4096_6), (FV.sl h4096_7)])))]⟩ (kFin R [(.tmp 4, .fz)] [])
def K_node_Is_1 (R : Orc) (k : Nat) (w : Bool) : AExit → St → Option Ans := (kBlk 0 (kSeq R k w [] A_node_Is_s1 (kFin R [(.tmp 4, .fz)] [])))
def L_node_Is_1_0 (R : Orc) (k : Nat) (w : Bool) (n : Nat) (x0e : FV) (x29 : List FV) (x30 : Int) (x31 : Int) := loopL R k w [] [0, 29, 30, 31] [4] A_node_Is_b1 n ⟨[(0, .fz (FV.pt 195 true x0e 0)), (29, .fz (FV.sl x29)), (30, .fz (FV.int .i64 x30)), (31, .fz (FV.int .i64 x31))], [(4095, .dead)]⟩
def X_node_Is_1_0 (x4 : Bool) : St := ⟨[(4, .fz (FV.bool x4))], [(4095, .dead)]⟩
def X_node_Is_1_1 : St := ⟨[], [(4095, .dead)]⟩
theorem E_node_Is (R : Orc) (k : Nat) (w : Bool) (a0 : FV) (a1_0 : Int) (a1_1 : Int) (a1_2 : Int) (a1_3_0 : Int) (a1_3_1 : Int) (a1_4 : ByteArray) (a1_5 : List FV) (a1_6 : List FV) : callL R k w A_node_Is [.fz (FV.pt 195 true a0 0), .fz (FV.ag [(FV.int .i64 a1_0), (FV.int .i64 a1_1), (FV.int .i64 a1_2), (FV.int .i64 a1_3_0), (FV.int .i64 a1_3_1), (FV.str a1_4), (FV.sl a1_5), (FV.sl a1_6)])] = onR (R N_level_Lattice_Is [.fz (FV.pt 195 true a0 0), .fz (FV.int .i64 a1_0)]) fun r0 => when (List.isEmpty r0.2 && allF [.fz] r0.1) (when (FV.isBool (TV.toF (List.getD r0.1 0 TV.em))) (ifB (!(FV.toBool (TV.toF (List.getD r0.1 0 TV.em))))
  (some ([.fz (FV.bool false)], []))
  (onR (R N_node_fits [.fz (FV.ag [(FV.int .i64 a1_0), (FV.int .i64 a1_1), (FV.int .i64 a1_2), (FV.int .i64 a1_3_0), (FV.int .i64 a1_3_1), (FV.str a1_4), (FV.sl a1_5), (FV.sl a1_6)])]) fun r1 => when (List.isEmpty r1.2 && allF [.fz] r1.1) (when (FV.isBool (TV.toF (List.getD r1.1 0 TV.em))) (ifB (!(FV.toBool (TV.toF (List.getD r1.1 0 TV.em))))
   (some ([.fz (FV.bool false)], []))
   (onR (R N_node_deep [.fz (FV.pt 195 true a0 0), .fz (FV.int .i64 a1_0), .fz (FV.sl a1_5)]) fun r2 => when (List.isEmpty r2.2 && allF [.fz] r2.1) (when (FV.isInt .i64 (TV.toF (List.getD r2.1 0 TV.em))) (ifB (a1_1 != (FV.toInt (TV.toF (List.getD r2.1 0 TV.em))))
    (some ([.fz (FV.bool false)], []))
    (jump w (J_node_Is_2_0 R k w a0 a1_0 a1_1 a1_2 a1_3_0 a1_3_1 a1_4 a1_5 a1_6)))))))))) := by kernel_rfl
theorem J_node_Is_2_0_eq (R : Orc) (k : Nat) (w : Bool) (x0e : FV) (h4096_0 : Int) (h4096_1 : Int) (h4096_2 : Int) (h4096_3 : Int) (h4096_4 : Int) (h4096_5 : ByteArray) (h4096_6 : List FV) (h4096_7 : List FV) : J_node_Is_2_0 R k w x0e h4096_0 h4096_1 h4096_2 h4096_3 h4096_4 h4096_5 h4096_6 h4096_7 = onL (L_node_Is_1_0 R k w k x0e h4096_6 (List.length h4096_6 : Int) 0) (K_node_Is_1 R k w) := by kernel_rfl
theorem L_node_Is_1_0_eq (R : Orc) (k : Nat) (w : Bool) (n : Nat) (x0e : FV) (x29 : List FV) (x30 : Int) (x31 : Int) : L_node_Is_1_0 R k w (n + 1) x0e x29 x30 x31 = ifB (decide (x31 < x30))
  (when ((decide (0 ≤ x31)) && (decide (x31 < (List.length x29 : Int)))) (when (FV.fits 8 true (List.getD x29 (Int.toNat x31) FV.nilp)) (when (FV.fits 8 true (List.getD x29 (Int.toNat x31) FV.nilp)) (onR (R N_node_Is [.fz (FV.pt 195 true x0e 0), .fz (List.getD x29 (Int.toNat x31) FV.nilp)]) fun r3 => when (List.isEmpty r3.2 && allF [.fz] r3.1) (when (FV.isBool (TV.toF (List.getD r3.1 0 TV.em))) (ifB (!(FV.toBool (TV.toF (List.getD r3.1 0 TV.em))))
   (some (.ret, X_node_Is_1_0 false))
   (L_node_Is_1_0 R k w n x0e x29 x30 (IntKind.wrap .i64 (x31 + 1)))))))))
  (some ((.exit 0), X_node_Is_1_1)) := by kernel_rfl
theorem X_node_Is_1_0_eq (R : Orc) (k : Nat) (w : Bool) (x4 : Bool) : K_node_Is_1 R k w .ret (X_node_Is_1_0 x4) = some ([.fz (FV.bool x4)], []) := by kernel_rfl
theorem X_node_Is_1_1_eq (R : Orc) (k : Nat) (w : Bool) : K_node_Is_1 R k w (.exit 0) (X_node_Is_1_1) = some ([.fz (FV.bool true)], []) := by kernel_rfl
/-! keyhole/keyholeref09.Same -/
def A_ref09_Same_b1 : ACode := .seq (.seq (.region [⟨(some 58), .mov (.t 5), none, some (.int .i64)⟩,
   ⟨(some 59), .fadr 7 (.t 2), none, none⟩,
   ⟨(some 60), .load 1 false (.t 59), none, none⟩,
   ⟨(some 61), .len (.sl 1 false) (.t 60), none, some (.int .i64)⟩,
   ⟨(some 62), .binI .lss .i64 (.t 58) (.t 61), none, some .bool⟩])
  (.cond (.t 62) (.skip)
   (.exit 0)))
 (.seq (.block 1 (.seq (.draws [⟨⟨(some 65), .fadr 7 (.t 2), none, none⟩, []⟩,
     ⟨⟨(some 66), .load 1 false (.t 65), none, none⟩, [0]⟩,
     ⟨⟨(some 67), .mov (.t 5), none, some (.int .i64)⟩, []⟩,
     ⟨⟨(some 68), .iadr (.sl 1 false) (.t 66) (.t 67), none, none⟩, [1, 2]⟩,
     ⟨⟨(some 69), .load 1 false (.t 68), none, some .str⟩, [3]⟩,
     ⟨⟨(some 70), .fadr 7 (.t 3), none, none⟩, []⟩,
     ⟨⟨(some 71), .load 1 false (.t 70), none, none⟩, [5]⟩,
     ⟨⟨(some 72), .mov (.t 5), none, some (.int .i64)⟩, []⟩,
     ⟨⟨(some 73), .iadr (.sl 1 false) (.t 71) (.t 72), none, none⟩, [6, 7]⟩,
     ⟨⟨(some 74), .load 1 false (.t 73), none, some .str⟩, [8]⟩,
     ⟨⟨(some 75), .binS .neq (.t 69) (.t 74), none, some .bool⟩, [4, 9]⟩])
    (.cond (.t 75) (.seq (.region [⟨(some 4), .mov (.c (.fz (.bool false))), none, some .bool⟩])
      (.ret))
     (.skip))))
  (.region [⟨(some 63), .mov (.t 5), none, some (.int .i64)⟩,
   ⟨(some 64), .binI .add .i64 (.t 63) (.c (.fz (.int .i64 1))), none, some (.int .i64)⟩,
   ⟨(some 5), .mov (.t 64), none, some (.int .i64)⟩]))
def A_ref09_Same_b2 : ACode := .seq (.seq (.region [⟨(some 76), .mov (.t 6), none, some (.int .i64)⟩,
   ⟨(some 77), .fadr 6 (.t 2), none, none⟩,
   ⟨(some 78), .load 1 false (.t 77), none, none⟩,
   ⟨(some 79), .len (.sl 8 true) (.t 78), none, some (.int .i64)⟩,
   ⟨(some 80), .binI .lss .i64 (.t 76) (.t 79), none, some .bool⟩])
  (.cond (.t 80) (.skip)
   (.exit 2)))
 (.seq (.block 3 (.seq (.draws [⟨⟨(some 83), .fadr 6 (.t 2), none, none⟩, []⟩,
     ⟨⟨(some 84), .load 1 false (.t 83), none, none⟩, [0]⟩,
     ⟨⟨(some 85), .mov (.t 6), none, some (.int .i64)⟩, []⟩,
     ⟨⟨(some 86), .iadr (.sl 8 true) (.t 84) (.t 85), none, none⟩, [1, 2]⟩,
     ⟨⟨(some 87), .load 8 true (.t 86), none, none⟩, [3]⟩,
     ⟨⟨(some 88), .fadr 6 (.t 3), none, none⟩, []⟩,
     ⟨⟨(some 89), .load 1 false (.t 88), none, none⟩, [5]⟩,
     ⟨⟨(some 90), .mov (.t 6), none, some (.int .i64)⟩, []⟩,
     ⟨⟨(some 91), .iadr (.sl 8 true) (.t 89) (.t 90), none, none⟩, [6, 7]⟩,
     ⟨⟨(some 92), .load 8 true (.t 91), none, none⟩, [8]⟩,
     ⟨⟨(some 93), .call N_ref09_Same [((.t 87), .fz), ((.t 92), .fz)] [.fz], none, some .bool⟩, [4, 9]⟩,
     ⟨⟨(some 94), .notB (.t 93), none, some .bool⟩, [10]⟩])
    (.cond (.t 94) (.seq (.region [⟨(some 4), .mov (.c (.fz (.bool false))), none, some .bool⟩])
      (.ret))
     (.skip))))
  (.region [⟨(some 81), .mov (.t 6), none, some (.int .i64)⟩,
   ⟨(some 82), .binI .add .i64 (.t 81) (.c (.fz (.int .i64 1))), none, some (.int .i64)⟩,
   ⟨(some 6), .mov (.t 82), none, some (.int .i64)⟩]))
def A_ref09_Same_s1 : ACode := .seq (.region [⟨(some 4), .mov (.c (.fz (.bool true))), none, some .bool⟩])
 (.ret)
def A_ref09_Same_s2 : ACode := .seq (.seq (.region [⟨(some 6), .mov (.c (.fz (.int .i64 0))), none, some (.int .i64)⟩])
  (.block 2 (.loop [2, 3, 6] [4] A_ref09_Same_b2)))
 A_ref09_Same_s1
def A_ref09_Same_j3 : ACode := .seq (.seq (.region [⟨(some 5), .mov (.c (.fz (.int .i64 0))), none, some (.int .i64)⟩])
  (.block 0 (.loop [2, 3, 5] [2, 3, 4] A_ref09_Same_b1)))
 A_ref09_Same_s2
def A_ref09_Same : AFunc := ⟨2, [(.tmp 4, .fz)], .seq (.region [⟨(some 2), .box 8 true (.t 0), none, none⟩,
  ⟨(some 3), .box 8 true (.t 1), none, none⟩,
  ⟨(some 4), .mov (.c (.fz (.bool false))), none, some .bool⟩])
 (.seq (.seq (.region [⟨(some 7), .fadr 0 (.t 2), none, none⟩,
    ⟨(some 8), .load 1 false (.t 7), none, some (.int .i64)⟩,
    ⟨(some 9), .fadr 0 (.t 3), none, none⟩,
    ⟨(some 10), .load 1 false (.t 9), none, some (.int .i64)⟩,
    ⟨(some 11), .binI .neq .i64 (.t 8) (.t 10), none, some .bool⟩,
    ⟨(some 12), .mov (.t 11), none, some .bool⟩,
    ⟨(some 13), .fadr 1 (.t 2), (some (12, false)), none⟩,
    ⟨(some 14), .load 1 false (.t 13), (some (12, false)), some (.int .i64)⟩,
    ⟨(some 15), .fadr 1 (.t 3), (some (12, false)), none⟩,
    ⟨(some 16), .load 1 false (.t 15), (some (12, false)), some (.int .i64)⟩,
    ⟨(some 17), .binI .neq .i64 (.t 14) (.t 16), (some (12, false)), some .bool⟩,
    ⟨(some 18), .pick (.t 12) (.c (.fz (.bool true))) (.t 17), none, some .bool⟩,
    ⟨(some 19), .mov (.t 18), none, some .bool⟩,
    ⟨(some 20), .fadr 2 (.t 2), (some (19, false)), none⟩,
    ⟨(some 21), .load 1 false (.t 20), (some (19, false)), some (.int .i64)⟩,
    ⟨(some 22), .fadr 2 (.t 3), (some (19, false)), none⟩,
    ⟨(some 23), .load 1 false (.t 22), (some (19, false)), some (.int .i64)⟩,
    ⟨(some 24), .binI .neq .i64 (.t 21) (.t 23), (some (19, false)), some .bool⟩,
    ⟨(some 25), .pick (.t 19) (.c (.fz (.bool true))) (.t 24), none, some .bool⟩,
    ⟨(some 26), .mov (.t 25), none, some .bool⟩,
    ⟨(some 27), .fadr 3 (.t 2), (some (26, false)), none⟩,
    ⟨(some 28), .load 2 true (.t 27), (some (26, false)), none⟩,
    ⟨(some 29), .fadr 3 (.t 3), (some (26, false)), none⟩,
    ⟨(some 30), .load 2 true (.t 29), (some (26, false)), none⟩,
    ⟨(some 31), .eqA true [.int .i64, .int .i64] (.t 28) (.t 30), (some (26, false)), some .bool⟩,
    ⟨(some 32), .pick (.t 26) (.c (.fz (.bool true))) (.t 31), none, some .bool⟩,
    ⟨(some 33), .mov (.t 32), none, some .bool⟩,
    ⟨(some 34), .fadr 5 (.t 2), (some (33, false)), none⟩,
    ⟨(some 35), .load 1 false (.t 34), (some (33, false)), some .str⟩,
    ⟨(some 36), .fadr 5 (.t 3), (some (33, false)), none⟩,
    ⟨(some 37), .load 1 false (.t 36), (some (33, false)), some .str⟩,
    ⟨(some 38), .binS .neq (.t 35) (.t 37), (some (33, false)), some .bool⟩,
    ⟨(some 39), .pick (.t 33) (.c (.fz (.bool true))) (.t 38), none, some .bool⟩,
    ⟨(some 40), .mov (.t 39), none, some .bool⟩,
    ⟨(some 41), .fadr 6 (.t 2), (some (40, false)), none⟩,
    ⟨(some 42), .load 1 false (.t 41), (some (40, false)), none⟩,
    ⟨(some 43), .len (.sl 8 true) (.t 42), (some (40, false)), some (.int .i64)⟩,
    ⟨(some 44), .fadr 6 (.t 3), (some (40, false)), none⟩,
    ⟨(some 45), .load 1 false (.t 44), (some (40, false)), none⟩,
    ⟨(some 46), .len (.sl 8 true) (.t 45), (some (40, false)), some (.int .i64)⟩,
    ⟨(some 47), .binI .neq .i64 (.t 43) (.t 46), (some (40, false)), some .bool⟩,
    ⟨(some 48), .pick (.t 40) (.c (.fz (.bool true))) (.t 47), none, some .bool⟩,
    ⟨(some 49), .mov (.t 48), none, some .bool⟩,
    ⟨(some 50), .fadr 7 (.t 2), (some (49, false)), none⟩,
    ⟨(some 51), .load 1 false (.t 50), (some (49, false)), none⟩,
    ⟨(some 52), .len (.sl 1 false) (.t 51), (some (49, false)), some (.int .i64)⟩,
    ⟨(some 53), .fadr 7 (.t 3), (some (49, false)), none⟩,
    ⟨(some 54), .load 1 false (.t 53), (some (49, false)), none⟩,
    ⟨(some 55), .len (.sl 1 false) (.t 54), (some (49, false)), some (.int .i64)⟩,
    ⟨(some 56), .binI .neq .i64 (.t 52) (.t 55), (some (49, false)), some .bool⟩,
    ⟨(some 57), .pick (.t 49) (.c (.fz (.bool true))) (.t 56), none, some .bool⟩])
   (.cond (.t 57) (.seq (.region [⟨(some 4), .mov (.c (.fz (.bool false))), none, some .bool⟩])
     (.ret))
    (.skip)))
  (.trim [2, 3] A_ref09_Same_j3))⟩
def J_ref09_Same_3_0 (R : Orc) (k : Nat) (w : Bool) (h4096_0 : Int) (h4096_1 : Int) (h4096_2 : Int) (h4096_3 : Int) (h4096_4 : Int) (h4096_5 : ByteArray) (h4096_6 : List FV) (h4096_7 : List FV) (h4097_0 : Int) (h4097_1 : Int) (h4097_2 : Int) (h4097_3 : Int) (h4097_4 : Int) (h4097_5 : ByteArray) (h4097_6 : List FV) (h4097_7 : List FV) := execL R k w [] A_ref09_Same_j3 Ans ⟨[(2, .ptr 4096 0 0), (3, .ptr 4097 0 0)], [(4095, .dead), (4096, .var 8 true (.fz (FV.ag [(FV.int .i64 h4096_0), (FV.int .i64 h4096_1), (FV.int .i64 h4096_2), (FV.int .i64 h4096_3), (FV.int .i64 h4096_4), (FV.str h4096_5), (FV.sl h4096_6), (FV.sl h4096_7)]))), (4097, .var 8 true (.fz (FV.ag [(FV.int .i64 h4097_0), (FV.int .i64 h4097_1), (FV.int .i64 h4097_2), (FV.int .i64 h4097_3), (FV.int .i64 h4097_4), (FV.str h4097_5), (FV.sl h4097_6), (FV.sl h4097_7)])))]⟩ (kFin R [(.tmp 4, .fz)] [])
def K_ref09_Same_1 (R : Orc) (k : Nat) (w : Bool) : AExit → St → Option Ans := (kBlk 0 (kSeq R k w [] A_ref09_Same_s2 (kFin R [(.tmp 4, .fz)] [])))
def L_ref09_Same_1_0 (R : Orc) (k : Nat) (w : Bool) (n : Nat) (x5 : Int) (h4096_0 : Int) (h4096_1 : Int) (h4096_2 : Int) (h4096_3 : Int) (h4096_4 : Int) (h4096_5 : ByteArray) (h4096_6 : List FV) (h4096_7 : List FV) (h4097_0 : Int) (h4097_1 : Int) (h4097_2 : Int) (h4097_3 : Int) (h4097_4 : Int) (h4097_5 : ByteArray) (h4097_6 : List FV) (h4097_7 : List FV) := loopL R k w [] [2, 3, 5] [2, 3, 4] A_ref09_Same_b1 n ⟨[(2, .ptr 4096 0 0), (3, .ptr 4097 0 0), (5, .fz (FV.int .i64 x5))], [(4095, .dead), (4096, .var 8 true (.fz (FV.ag [(FV.int .i64 h4096_0), (FV.int .i64 h4096_1), (FV.int .i64 h4096_2), (FV.int .i64 h4096_3), (FV.int .i64 h4096_4), (FV.str h4096_5), (FV.sl h4096_6), (FV.sl h4096_7)]))), (4097, .var 8 true (.fz (FV.ag [(FV.int .i64 h4097_0), (FV.int .i64 h4097_1), (FV.int .i64 h4097_2), (FV.int .i64 h4097_3), (FV.int .i64 h4097_4), (FV.str h4097_5), (FV.sl h4097_6), (FV.sl h4097_7)])))]⟩
def X_ref09_Same_1_0 (x4 : Bool) (h4096_0 : Int) (h4096_1 : Int) (h4096_2 : Int) (h4096_3 : Int) (h4096_4 : Int) (h4096_5 : ByteArray) (h4096_6 : List FV) (h4096_7 : List FV) (h4097_0 : Int) (h4097_1 : Int) (h4097_2 : Int) (h4097_3 : Int) (h4097_4 : Int) (h4097_5 : ByteArray) (h4097_6 : List FV) (h4097_7 : List FV) : St := ⟨[(2, .ptr 4096 0 0), (3, .ptr 4097 0 0), (4, .fz (FV.bool x4))], [(4095, .dead), (4096, .var 8 true (.fz (FV.ag [(FV.int .i64 h4096_0), (FV.int .i64 h4096_1), (FV.int .i64 h4096_2), (FV.int .i64 h4096_3), (FV.int .i64 h4096_4), (FV.str h4096_5), (FV.sl h4096_6), (FV.sl h4096_7)]))), (4097, .var 8 true (.fz (FV.ag [(FV.int .i64 h4097_0), (FV.int .i64 h4097_1), (FV.int .i64 h4097_2), (FV.int .i64 h4097_3), (FV.int .i64 h4097_4), (FV.str h4097_5), (FV.sl h4097_6), (FV.sl h4097_7)])))]⟩
def X_ref09_Same_1_1 (h4096_0 : Int) (h4096_1 : Int) (h4096_2 : Int) (h4096_3 : Int) (h4096_4 : Int) (h4096_5 : ByteArray) (h4096_6 : List FV) (h4096_7 : List FV) (h4097_0 : Int) (h4097_1 : Int) (h4097_2 : Int) (h4097_3 : Int) (h4097_4 : Int) (h4097_5 : ByteArray) (h4097_6 : List FV) (h4097_7 : List FV) : St := ⟨[(2, .ptr 4096 0 0), (3, .ptr 4097 0 0)], [(4095, .dead), (4096, .var 8 true (.fz (FV.ag [(FV.int .i64 h4096_0), (FV.int .i64 h4096_1), (FV.int .i64 h4096_2), (FV.int .i64 h4096_3), (FV.int .i64 h4096_4), (FV.str h4096_5), (FV.sl h4096_6), (FV.sl h4096_7)]))), (4097, .var 8 true (.fz (FV.ag [(FV.int .i64 h4097_0), (FV.int .i64 h4097_1), (FV.int .i64 h4097_2), (FV.int .i64 h4097_3), (FV.int .i64 h4097_4), (FV.str h4097_5), (FV.sl h4097_6), (FV.sl h4097_7)])))]⟩
def K_ref09_Same_2 (R : Orc) (k : Nat) (w : Bool) : AExit → St → Option Ans := (kBlk 2 (kSeq R k w [] A_ref09_Same_s1 (kFin R [(.tmp 4, .fz)] [])))
def L_ref09_Same_2_0 (R : Orc) (k : Nat) (w : Bool) (n : Nat) (x6 : Int) (h4096_0 : Int) (h4096_1 : Int) (h4096_2 : Int) (h4096_3 : Int) (h4096_4 : Int) (h4096_5 : ByteArray) (h4096_6 : List FV) (h4096_7 : List FV) (h4097_0 : Int) (h4097_1 : Int) (h4097_2 : Int) (h4097_3 : Int) (h4097_4 : Int) (h4097_5 : ByteArray) (h4097_6 : List FV) (h4097_7 : List FV) := loopL R k w [] [2, 3, 6] [4] A_ref09_Same_b2 n ⟨[(2, .ptr 4096 0 0), (3, .ptr 4097 0 0), (6, .fz (FV.int .i64 x6))], [(4095, .dead), (4096, .var 8 true (.fz (FV.ag [(FV.int .i64 h4096_0), (FV.int .i64 h4096_1), (FV.int .i64 h4096_2), (FV.int .i64 h4096_3), (FV.int .i64 h4096_4), (FV.str h4096_5), (FV.sl h4096_6), (FV.sl h4096_7)]))), (4097, .var 8 true (.fz (FV.ag [(FV.int .i64 h4097_0), (FV.int .i64 h4097_1), (FV.int .i64 h4097_2), (FV.int .i64 h4097_3), (FV.int .i64 h4097_4), (FV.str h4097_5), (FV.sl h4097_6), (FV.sl h4097_7)])))]⟩
def X_ref09_Same_2_0 (x4 : Bool) : St := ⟨[(4, .fz (FV.bool x4))], [(4095, .dead)]⟩
def X_ref09_Same_2_1 : St := ⟨[], [(4095, .dead)]⟩
theorem E_ref09_Same (R : Orc) (k : Nat) (w : Bool) (a0_0 : Int) (a0_1 : Int) (a0_2 : Int) (a0_3_0 : Int) (a0_3_1 : Int) (a0_4 : ByteArray) (a0_5 : List FV) (a0_6 : List FV) (a1_0 : Int) (a1_1 : Int) (a1_2 : Int) (a1_3_0 : Int) (a1_3_1 : Int) (a1_4 : ByteArray) (a1_5 : List FV) (a1_6 : List FV) : callL R k w A_ref09_Same [.fz (FV.ag [(FV.int .i64 a0_0), (FV.int .i64 a0_1), (FV.int .i64 a0_2), (FV.int .i64 a0_3_0), (FV.int .i64 a0_3_1), (FV.str a0_4), (FV.sl a0_5), (FV.sl a0_6)]), .fz (FV.ag [(FV.int .i64 a1_0), (FV.int .i64 a1_1), (FV.int .i64 a1_2), (FV.int .i64 a1_3_0), (FV.int .i64 a1_3_1), (FV.str a1_4), (FV.sl a1_5), (FV.sl a1_6)])] = ifB (a0_0 != a1_0)
  (some ([.fz (FV.bool false)], []))
  (ifB (a0_1 != a1_1)
   (some ([.fz (FV.bool false)], []))
   (ifB (a0_2 != a1_2)
    (some ([.fz (FV.bool false)], []))
    (ifB (!((a0_3_0 == a1_3_0) && ((a0_3_1 == a1_3_1) && true)))
     (some ([.fz (FV.bool false)], []))
     (ifB (!(ByteArray.toList a0_4 == ByteArray.toList a1_4))
      (some ([.fz (FV.bool false)], []))
      (ifB ((List.length a0_5 : Int) != (List.length a1_5 : Int))
       (some ([.fz (FV.bool false)], []))
       (ifB ((List.length a0_6 : Int) != (List.length a1_6 : Int))
        (some ([.fz (FV.bool false)], []))
        (jump w (J_ref09_Same_3_0 R k w a0_0 a0_1 a0_2 a0_3_0 a0_3_1 a0_4 a0_5 a0_6 a1_0 a1_1 a1_2 a1_3_0 a1_3_1 a1_4 a1_5 a1_6)))))))) := by kernel_rfl
theorem J_ref09_Same_3_0_eq (R : Orc) (k : Nat) (w : Bool) (h4096_0 : Int) (h4096_1 : Int) (h4096_2 : Int) (h4096_3 : Int) (h4096_4 : Int) (h4096_5 : ByteArray) (h4096_6 : List FV) (h4096_7 : List FV) (h4097_0 : Int) (h4097_1 : Int) (h4097_2 : Int) (h4097_3 : Int) (h4097_4 : Int) (h4097_5 : ByteArray) (h4097_6 : List FV) (h4097_7 : List FV) : J_ref09_Same_3_0 R k w h4096_0 h4096_1 h4096_2 h4096_3 h4096_4 h4096_5 h4096_6 h4096_7 h4097_0 h4097_1 h4097_2 h4097_3 h4097_4 h4097_5 h4097_6 h4097_7 = onL (L_ref09_Same_1_0 R k w k 0 h4096_0 h4096_1 h4096_2 h4096_3 h4096_4 h4096_5 h4096_6 h4096_7 h4097_0 h4097_1 h4097_2 h4097_3 h4097_4 h4097_5 h4097_6 h4097_7) (K_ref09_Same_1 R k w) := by kernel_rfl
theorem L_ref09_Same_1_0_eq (R : Orc) (k : Nat) (w : Bool) (n : Nat) (x5 : Int) (h4096_0 : Int) (h4096_1 : Int) (h4096_2 : Int) (h4096_3 : Int) (h4096_4 : Int) (h4096_5 : ByteArray) (h4096_6 : List FV) (h4096_7 : List FV) (h4097_0 : Int) (h4097_1 : Int) (h4097_2 : Int) (h4097_3 : Int) (h4097_4 : Int) (h4097_5 : ByteArray) (h4097_6 : List FV) (h4097_7 : List FV) : L_ref09_Same_1_0 R k w (n + 1) x5 h4096_0 h4096_1 h4096_2 h4096_3 h4096_4 h4096_5 h4096_6 h4096_7 h4097_0 h4097_1 h4097_2 h4097_3 h4097_4 h4097_5 h4097_6 h4097_7 = ifB (decide (x5 < (List.length h4096_7 : Int)))
  (when ((decide (0 ≤ x5)) && (decide (x5 < (List.length h4096_7 : Int)))) (when (FV.fits 1 false (List.getD h4096_7 (Int.toNat x5) FV.nilp)) (when (FV.isStr (List.getD h4096_7 (Int.toNat x5) FV.nilp)) (when ((decide (0 ≤ x5)) && (decide (x5 < (List.length h4097_7 : Int)))) (when (FV.fits 1 false (List.getD h4097_7 (Int.toNat x5) FV.nilp)) (when (FV.isStr (List.getD h4097_7 (Int.toNat x5) FV.nilp)) (ifB (!(ByteArray.toList (FV.toStr (List.getD h4096_7 (Int.toNat x5) FV.nilp)) == ByteArray.toList (FV.toStr (List.getD h4097_7 (Int.toNat x5) FV.nilp))))
   (some (.ret, X_ref09_Same_1_0 false h4096_0 h4096_1 h4096_2 h4096_3 h4096_4 h4096_5 h4096_6 h4096_7 h4097_0 h4097_1 h4097_2 h4097_3 h4097_4 h4097_5 h4097_6 h4097_7))
   (L_ref09_Same_1_0 R k w n (IntKind.wrap .i64 (x5 + 1)) h4096_0 h4096_1 h4096_2 h4096_3 h4096_4 h4096_5 h4096_6 h4096_7 h4097_0 h4097_1 h4097_2 h4097_3 h4097_4 h4097_5 h4097_6 h4097_7))))))))
  (some ((.exit 0), X_ref09_Same_1_1 h4096_0 h4096_1 h4096_2 h4096_3 h4096_4 h4096_5 h4096_6 h4096_7 h4097_0 h4097_1 h4097_2 h4097_3 h4097_4 h4097_5 h4097_6 h4097_7)) := by kernel_rfl
theorem X_ref09_Same_1_0_eq (R : Orc) (k : Nat) (w : Bool) (x4 : Bool) (h4096_0 : Int) (h4096_1 : Int) (h4096_2 : Int) (h4096_3 : Int) (h4096_4 : Int) (h4096_5 : ByteArray) (h4096_6 : List FV) (h4096_7 : List FV) (h4097_0 : Int) (h4097_1 : Int) (h4097_2 : Int) (h4097_3 : Int) (h4097_4 : Int) (h4097_5 : ByteArray) (h4097_6 : List FV) (h4097_7 : List FV) : K_ref09_Same_1 R k w .ret (X_ref09_Same_1_0 x4 h4096_0 h4096_1 h4096_2 h4096_3 h4096_4 h4096_5 h4096_6 h4096_7 h4097_0 h4097_1 h4097_2 h4097_3 h4097_4 h4097_5 h4097_6 h4097_7) = some ([.fz (FV.bool x4)], []) := by kernel_rfl
theorem X_ref09_Same_1_1_eq (R : Orc) (k : Nat) (w : Bool) (h4096_0 : Int) (h4096_1 : Int) (h4096_2 : Int) (h4096_3 : Int) (h4096_4 : Int) (h4096_5 : ByteArray) (h4096_6 : List FV) (h4096_7 : List FV) (h4097_0 : Int) (h4097_1 : Int) (h4097_2 : Int) (h4097_3 : Int) (h4097_4 : Int) (h4097_5 : ByteArray) (h4097_6 : List FV) (h4097_7 : List FV) : K_ref09_Same_1 R k w (.exit 0) (X_ref09_Same_1_1 h4096_0 h4096_1 h4096_2 h4096_3 h4096_4 h4096_5 h4096_6 h4096_7 h4097_0 h4097_1 h4097_2 h4097_3 h4097_4 h4097_5 h4097_6 h4097_7) = onL (L_ref09_Same_2_0 R k w k 0 h4096_0 h4096_1 h4096_2 h4096_3 h4096_4 h4096_5 h4096_6 h4096_7 h4097_0 h4097_1 h4097_2 h4097_3 h4097_4 h4097_5 h4097_6 h4097_7) (K_ref09_Same_2 R k w) := by kernel_rfl
theorem L_ref09_Same_2_0_eq (R : Orc) (k : Nat) (w : Bool) (n : Nat) (x6 : Int) (h4096_0 : Int) (h4096_1 : Int) (h4096_2 : Int) (h4096_3 : Int) (h4096_4 : Int) (h4096_5 : ByteArray) (h4096_6 : List FV) (h4096_7 : List FV) (h4097_0 : Int) (h4097_1 : Int) (h4097_2 : Int) (h4097_3 : Int) (h4097_4 : Int) (h4097_5 : ByteArray) (h4097_6 : List FV) (h4097_7 : List FV) : L_ref09_Same_2_0 R k w (n + 1) x6 h4096_0 h4096_1 h4096_2 h4096_3 h4096_4 h4096_5 h4096_6 h4096_7 h4097_0 h4097_1 h4097_2 h4097_3 h4097_4 h4097_5 h4097_6 h4097_7 = ifB (decide (x6 < (List.length h4096_6 : Int)))
  (when ((decide (0 ≤ x6)) && (decide (x6 < (List.length h4096_6 : Int)))) (when (FV.fits 8 true (List.getD h4096_6 (Int.toNat x6) FV.nilp)) (when ((decide (0 ≤ x6)) && (decide (x6 < (List.length h4097_6 : Int)))) (when (FV.fits 8 true (List.getD h4097_6 (Int.toNat x6) FV.nilp)) (onR (R N_ref09_Same [.fz (List.getD h4096_6 (Int.toNat x6) FV.nilp), .fz (List.getD h4097_6 (Int.toNat x6) FV.nilp)]) fun r0 => when (List.isEmpty r0.2 && allF [.fz] r0.1) (when (FV.isBool (TV.toF (List.getD r0.1 0 TV.em))) (ifB (!(FV.toBool (TV.toF (List.getD r0.1 0 TV.em))))
   (some (.ret, X_ref09_Same_2_0 false))
   (L_ref09_Same_2_0 R k w n (IntKind.wrap .i64 (x6 + 1)) h4096_0 h4096_1 h4096_2 h4096_3 h4096_4 h4096_5 h4096_6 h4096_7 h4097_0 h4097_1 h4097_2 h4097_3 h4097_4 h4097_5 h4097_6 h4097_7))))))))
  (some ((.exit 2), X_ref09_Same_2_1)) := by kernel_rfl
theorem X_ref09_Same_2_0_eq (R : Orc) (k : Nat) (w : Bool) (x4 : Bool) : K_ref09_Same_2 R k w .ret (X_ref09_Same_2_0 x4) = some ([.fz (FV.bool x4)], []) := by kernel_rfl
theorem X_ref09_Same_2_1_eq (R : Orc) (k : Nat) (w : Bool) : K_ref09_Same_2 R k w (.exit 2) (X_ref09_Same_2_1) = some ([.fz (FV.bool true)], []) := by kernel_rfl
/-! keyhole/keyholeref01.Sort -/
def A_ref01_Sort : AFunc := ⟨1, [(.cell 2 3 true, .fz)], .seq (.region [⟨(some 2), .alloc 3 true (.ag [.nils, .nils, .nils]), none, none⟩])
 (.seq (.seq (.region [⟨(some 3), .mov (.t 0), none, some (.int .i64)⟩,
    ⟨(some 4), .binI .rem .i64 (.t 3) (.c (.fz (.int .i64 6))), none, some (.int .i64)⟩,
    ⟨(some 5), .binI .add .i64 (.t 4) (.c (.fz (.int .i64 6))), none, some (.int .i64)⟩,
    ⟨(some 6), .binI .rem .i64 (.t 5) (.c (.fz (.int .i64 6))), none, some (.int .i64)⟩])
   (.block 0 (.seq (.region [⟨(some 8), .binI .eql .i64 (.t 6) (.c (.fz (.int .i64 0))), none, some .bool⟩,
      ⟨(some 7), .mov (.t 8), none, some .bool⟩])
     (.cond (.t 7) (.seq (.region [⟨(some 9), .buildSl 1 false 2 (.str ⟨#[]⟩) [(0, (.c (.fz (.str ⟨#[108, 111, 119]⟩)))), (1, (.c (.fz (.str ⟨#[104, 105, 103, 104]⟩))))], none, none⟩,
        ⟨(some 10), .build 2 [.fz (.int .i64 0), .fz (.int .i64 0)] [(0, 1, false, (.c (.fz (.int .i64 0)))), (1, 1, false, (.c (.fz (.int .i64 1))))], none, none⟩,
        ⟨(some 11), .buildSl 2 true 1 (.ag [.int .i64 0, .int .i64 0]) [(0, (.t 10))], none, none⟩,
        ⟨(some 12), .build 3 [.nils, .nils, .nils] [(0, 1, false, (.t 9)), (1, 1, false, (.t 11))], none, none⟩,
        ⟨none, .store 3 true (.t 2) (.t 12), none, none⟩])
       (.ret))
      (.seq (.region [⟨(some 14), .binI .eql .i64 (.t 6) (.c (.fz (.int .i64 1))), none, some .bool⟩,
        ⟨(some 13), .mov (.t 14), none, some .bool⟩])
       (.cond (.t 13) (.seq (.region [⟨(some 15), .buildSl 1 false 4 (.str ⟨#[]⟩) [(0, (.c (.fz (.str ⟨#[108, 111, 119]⟩)))), (1, (.c (.fz (.str ⟨#[108, 101, 102, 116]⟩)))), (2, (.c (.fz (.str ⟨#[114, 105, 103, 104, 116]⟩)))), (3, (.c (.fz (.str ⟨#[104, 105, 103, 104]⟩))))], none, none⟩,
          ⟨(some 16), .build 2 [.fz (.int .i64 0), .fz (.int .i64 0)] [(0, 1, false, (.c (.fz (.int .i64 0)))), (1, 1, false, (.c (.fz (.int .i64 1))))], none, none⟩,
          ⟨(some 17), .build 2 [.fz (.int .i64 0), .fz (.int .i64 0)] [(0, 1, false, (.c (.fz (.int .i64 0)))), (1, 1, false, (.c (.fz (.int .i64 2))))], none, none⟩,
          ⟨(some 18), .build 2 [.fz (.int .i64 0), .fz (.int .i64 0)] [(0, 1, false, (.c (.fz (.int .i64 1)))), (1, 1, false, (.c (.fz (.int .i64 3))))], none, none⟩,
          ⟨(some 19), .build 2 [.fz (.int .i64 0), .fz (.int .i64 0)] [(0, 1, false, (.c (.fz (.int .i64 2)))), (1, 1, false, (.c (.fz (.int .i64 3))))], none, none⟩,
          ⟨(some 20), .buildSl 2 true 4 (.ag [.int .i64 0, .int .i64 0]) [(0, (.t 16)), (1, (.t 17)), (2, (.t 18)), (3, (.t 19))], none, none⟩,
          ⟨(some 21), .build 3 [.nils, .nils, .nils] [(0, 1, false, (.t 15)), (1, 1, false, (.t 20))], none, none⟩,
          ⟨none, .store 3 true (.t 2) (.t 21), none, none⟩])
         (.ret))
        (.seq (.region [⟨(some 23), .binI .eql .i64 (.t 6) (.c (.fz (.int .i64 2))), none, some .bool⟩,
          ⟨(some 22), .mov (.t 23), none, some .bool⟩])
         (.cond (.t 22) (.seq (.region [⟨(some 24), .buildSl 1 false 3 (.str ⟨#[]⟩) [(0, (.c (.fz (.str ⟨#[97]⟩)))), (1, (.c (.fz (.str ⟨#[98]⟩)))), (2, (.c (.fz (.str ⟨#[99]⟩))))], none, none⟩,
            ⟨(some 25), .build 2 [.fz (.int .i64 0), .fz (.int .i64 0)] [(0, 1, false, (.c (.fz (.int .i64 0)))), (1, 1, false, (.c (.fz (.int .i64 1))))], none, none⟩,
            ⟨(some 26), .build 2 [.fz (.int .i64 0), .fz (.int .i64 0)] [(0, 1, false, (.c (.fz (.int .i64 1)))), (1, 1, false, (.c (.fz (.int .i64 2))))], none, none⟩,
            ⟨(some 27), .buildSl 2 true 2 (.ag [.int .i64 0, .int .i64 0]) [(0, (.t 25)), (1, (.t 26))], none, none⟩,
            ⟨(some 28), .build 3 [.nils, .nils, .nils] [(0, 1, false, (.t 24)), (1, 1, false, (.t 27))], none, none⟩,
            ⟨none, .store 3 true (.t 2) (.t 28), none, none⟩])
           (.ret))
          (.seq (.region [⟨(some 30), .binI .eql .i64 (.t 6) (.c (.fz (.int .i64 3))), none, some .bool⟩,
            ⟨(some 29), .mov (.t 30), none, some .bool⟩])
           (.cond (.t 29) (.seq (.region [⟨(some 31), .buildSl 1 false 1 (.str ⟨#[]⟩) [(0, (.c (.fz (.str ⟨#[111, 110, 101]⟩))))], none, none⟩,
              ⟨(some 32), .build 3 [.nils, .nils, .nils] [(0, 1, false, (.t 31))], none, none⟩,
              ⟨none, .store 3 true (.t 2) (.t 32), none, none⟩])
             (.ret))
            (.seq (.region [⟨(some 34), .binI .eql .i64 (.t 6) (.c (.fz (.int .i64 4))), none, some .bool⟩,
              ⟨(some 33), .mov (.t 34), none, some .bool⟩])
             (.cond (.t 33) (.seq (.region [⟨(some 35), .buildSl 1 false 5 (.str ⟨#[]⟩) [(0, (.c (.fz (.str ⟨#[116, 111, 112]⟩)))), (1, (.c (.fz (.str ⟨#[120]⟩)))), (2, (.c (.fz (.str ⟨#[121]⟩)))), (3, (.c (.fz (.str ⟨#[122]⟩)))), (4, (.c (.fz (.str ⟨#[98, 111, 116]⟩))))], none, none⟩,
                ⟨(some 36), .build 2 [.fz (.int .i64 0), .fz (.int .i64 0)] [(0, 1, false, (.c (.fz (.int .i64 4)))), (1, 1, false, (.c (.fz (.int .i64 1))))], none, none⟩,
                ⟨(some 37), .build 2 [.fz (.int .i64 0), .fz (.int .i64 0)] [(0, 1, false, (.c (.fz (.int .i64 4)))), (1, 1, false, (.c (.fz (.int .i64 2))))], none, none⟩,
                ⟨(some 38), .build 2 [.fz (.int .i64 0), .fz (.int .i64 0)] [(0, 1, false, (.c (.fz (.int .i64 4)))), (1, 1, false, (.c (.fz (.int .i64 3))))], none, none⟩,
                ⟨(some 39), .build 2 [.fz (.int .i64 0), .fz (.int .i64 0)] [(0, 1, false, (.c (.fz (.int .i64 1)))), (1, 1, false, (.c (.fz (.int .i64 0))))], none, none⟩,
                ⟨(some 40), .build 2 [.fz (.int .i64 0), .fz (.int .i64 0)] [(0, 1, false, (.c (.fz (.int .i64 2)))), (1, 1, false, (.c (.fz (.int .i64 0))))], none, none⟩,
                ⟨(some 41), .build 2 [.fz (.int .i64 0), .fz (.int .i64 0)] [(0, 1, false, (.c (.fz (.int .i64 3)))), (1, 1, false, (.c (.fz (.int .i64 0))))], none, none⟩,
                ⟨(some 42), .buildSl 2 true 6 (.ag [.int .i64 0, .int .i64 0]) [(0, (.t 36)), (1, (.t 37)), (2, (.t 38)), (3, (.t 39)), (4, (.t 40)), (5, (.t 41))], none, none⟩,
                ⟨(some 43), .build 3 [.nils, .nils, .nils] [(0, 1, false, (.t 35)), (1, 1, false, (.t 42))], none, none⟩,
                ⟨none, .store 3 true (.t 2) (.t 43), none, none⟩])
               (.ret))
              (.skip)))))))))))))
  (.seq (.region [⟨(some 44), .buildSl 1 false 8 (.str ⟨#[]⟩) [(0, (.c (.fz (.str ⟨#[111]⟩)))), (1, (.c (.fz (.str ⟨#[112]⟩)))), (2, (.c (.fz (.str ⟨#[113]⟩)))), (3, (.c (.fz (.str ⟨#[114]⟩)))), (4, (.c (.fz (.str ⟨#[112, 113]⟩)))), (5, (.c (.fz (.str ⟨#[112, 114]⟩)))), (6, (.c (.fz (.str ⟨#[113, 114]⟩)))), (7, (.c (.fz (.str ⟨#[97, 108, 108]⟩))))], none, none⟩,
    ⟨(some 45), .build 2 [.fz (.int .i64 0), .fz (.int .i64 0)] [(0, 1, false, (.c (.fz (.int .i64 0)))), (1, 1, false, (.c (.fz (.int .i64 1))))], none, none⟩,
    ⟨(some 46), .build 2 [.fz (.int .i64 0), .fz (.int .i64 0)] [(0, 1, false, (.c (.fz (.int .i64 0)))), (1, 1, false, (.c (.fz (.int .i64 2))))], none, none⟩,
    ⟨(some 47), .build 2 [.fz (.int .i64 0), .fz (.int .i64 0)] [(0, 1, false, (.c (.fz (.int .i64 0)))), (1, 1, false, (.c (.fz (.int .i64 3))))], none, none⟩,
    ⟨(some 48), .build 2 [.fz (.int .i64 0), .fz (.int .i64 0)] [(0, 1, false, (.c (.fz (.int .i64 1)))), (1, 1, false, (.c (.fz (.int .i64 4))))], none, none⟩,
    ⟨(some 49), .build 2 [.fz (.int .i64 0), .fz (.int .i64 0)] [(0, 1, false, (.c (.fz (.int .i64 2)))), (1, 1, false, (.c (.fz (.int .i64 4))))], none, none⟩,
    ⟨(some 50), .build 2 [.fz (.int .i64 0), .fz (.int .i64 0)] [(0, 1, false, (.c (.fz (.int .i64 1)))), (1, 1, false, (.c (.fz (.int .i64 5))))], none, none⟩,
    ⟨(some 51), .build 2 [.fz (.int .i64 0), .fz (.int .i64 0)] [(0, 1, false, (.c (.fz (.int .i64 3)))), (1, 1, false, (.c (.fz (.int .i64 5))))], none, none⟩,
    ⟨(some 52), .build 2 [.fz (.int .i64 0), .fz (.int .i64 0)] [(0, 1, false, (.c (.fz (.int .i64 2)))), (1, 1, false, (.c (.fz (.int .i64 6))))], none, none⟩,
    ⟨(some 53), .build 2 [.fz (.int .i64 0), .fz (.int .i64 0)] [(0, 1, false, (.c (.fz (.int .i64 3)))), (1, 1, false, (.c (.fz (.int .i64 6))))], none, none⟩,
    ⟨(some 54), .build 2 [.fz (.int .i64 0), .fz (.int .i64 0)] [(0, 1, false, (.c (.fz (.int .i64 4)))), (1, 1, false, (.c (.fz (.int .i64 7))))], none, none⟩,
    ⟨(some 55), .build 2 [.fz (.int .i64 0), .fz (.int .i64 0)] [(0, 1, false, (.c (.fz (.int .i64 5)))), (1, 1, false, (.c (.fz (.int .i64 7))))], none, none⟩,
    ⟨(some 56), .build 2 [.fz (.int .i64 0), .fz (.int .i64 0)] [(0, 1, false, (.c (.fz (.int .i64 6)))), (1, 1, false, (.c (.fz (.int .i64 7))))], none, none⟩,
    ⟨(some 57), .buildSl 2 true 12 (.ag [.int .i64 0, .int .i64 0]) [(0, (.t 45)), (1, (.t 46)), (2, (.t 47)), (3, (.t 48)), (4, (.t 49)), (5, (.t 50)), (6, (.t 51)), (7, (.t 52)), (8, (.t 53)), (9, (.t 54)), (10, (.t 55)), (11, (.t 56))], none, none⟩,
    ⟨(some 58), .build 3 [.nils, .nils, .nils] [(0, 1, false, (.t 44)), (1, 1, false, (.t 57))], none, none⟩,
    ⟨none, .store 3 true (.t 2) (.t 58), none, none⟩])
   (.ret)))⟩
theorem E_ref01_Sort (R : Orc) (k : Nat) (w : Bool) (a0 : Int) : callL R k w A_ref01_Sort [.fz (FV.int .i64 a0)] = ifB ((Int.tmod (IntKind.wrap .i64 ((Int.tmod a0 6) + 6)) 6) == 0)
  (some ([.fz (FV.ag [(FV.sl [(FV.str (⟨#[108, 111, 119]⟩ : ByteArray)), (FV.str (⟨#[104, 105, 103, 104]⟩ : ByteArray))]), (FV.sl [(FV.ag [(FV.int .i64 0), (FV.int .i64 1)])]), (FV.sl [])])], []))
  (ifB ((Int.tmod (IntKind.wrap .i64 ((Int.tmod a0 6) + 6)) 6) == 1)
   (some ([.fz (FV.ag [(FV.sl [(FV.str (⟨#[108, 111, 119]⟩ : ByteArray)), (FV.str (⟨#[108, 101, 102, 116]⟩ : ByteArray)), (FV.str (⟨#[114, 105, 103, 104, 116]⟩ : ByteArray)), (FV.str (⟨#[104, 105, 103, 104]⟩ : ByteArray))]), (FV.sl [(FV.ag [(FV.int .i64 0), (FV.int .i64 1)]), (FV.ag [(FV.int .i64 0), (FV.int .i64 2)]), (FV.ag [(FV.int .i64 1), (FV.int .i64 3)]), (FV.ag [(FV.int .i64 2), (FV.int .i64 3)])]), (FV.sl [])])], []))
   (ifB ((Int.tmod (IntKind.wrap .i64 ((Int.tmod a0 6) + 6)) 6) == 2)
    (some ([.fz (FV.ag [(FV.sl [(FV.str (⟨#[97]⟩ : ByteArray)), (FV.str (⟨#[98]⟩ : ByteArray)), (FV.str (⟨#[99]⟩ : ByteArray))]), (FV.sl [(FV.ag [(FV.int .i64 0), (FV.int .i64 1)]), (FV.ag [(FV.int .i64 1), (FV.int .i64 2)])]), (FV.sl [])])], []))
    (ifB ((Int.tmod (IntKind.wrap .i64 ((Int.tmod a0 6) + 6)) 6) == 3)
     (some ([.fz (FV.ag [(FV.sl [(FV.str (⟨#[111, 110, 101]⟩ : ByteArray))]), (FV.sl []), (FV.sl [])])], []))
     (ifB ((Int.tmod (IntKind.wrap .i64 ((Int.tmod a0 6) + 6)) 6) == 4)
      (some ([.fz (FV.ag [(FV.sl [(FV.str (⟨#[116, 111, 112]⟩ : ByteArray)), (FV.str (⟨#[120]⟩ : ByteArray)), (FV.str (⟨#[121]⟩ : ByteArray)), (FV.str (⟨#[122]⟩ : ByteArray)), (FV.str (⟨#[98, 111, 116]⟩ : ByteArray))]), (FV.sl [(FV.ag [(FV.int .i64 4), (FV.int .i64 1)]), (FV.ag [(FV.int .i64 4), (FV.int .i64 2)]), (FV.ag [(FV.int .i64 4), (FV.int .i64 3)]), (FV.ag [(FV.int .i64 1), (FV.int .i64 0)]), (FV.ag [(FV.int .i64 2), (FV.int .i64 0)]), (FV.ag [(FV.int .i64 3), (FV.int .i64 0)])]), (FV.sl [])])], []))
      (some ([.fz (FV.ag [(FV.sl [(FV.str (⟨#[111]⟩ : ByteArray)), (FV.str (⟨#[112]⟩ : ByteArray)), (FV.str (⟨#[113]⟩ : ByteArray)), (FV.str (⟨#[114]⟩ : ByteArray)), (FV.str (⟨#[112, 113]⟩ : ByteArray)), (FV.str (⟨#[112, 114]⟩ : ByteArray)), (FV.str (⟨#[113, 114]⟩ : ByteArray)), (FV.str (⟨#[97, 108, 108]⟩ : ByteArray))]), (FV.sl [(FV.ag [(FV.int .i64 0), (FV.int .i64 1)]), (FV.ag [(FV.int .i64 0), (FV.int .i64 2)]), (FV.ag [(FV.int .i64 0), (FV.int .i64 3)]), (FV.ag [(FV.int .i64 1), (FV.int .i64 4)]), (FV.ag [(FV.int .i64 2), (FV.int .i64 4)]), (FV.ag [(FV.int .i64 1), (FV.int .i64 5)]), (FV.ag [(FV.int .i64 3), (FV.int .i64 5)]), (FV.ag [(FV.int .i64 2), (FV.int .i64 6)]), (FV.ag [(FV.int .i64 3), (FV.int .i64 6)]), (FV.ag [(FV.int .i64 4), (FV.int .i64 7)]), (FV.ag [(FV.int .i64 5), (FV.int .i64 7)]), (FV.ag [(FV.int .i64 6), (FV.int .i64 7)])]), (FV.sl [])])], [])))))) := by kernel_rfl
/-! keyhole/level.New -/
def A_level_New : AFunc := ⟨1, [(.tmp 2, .fz), (.tmp 3, .fz)], .seq (.region [⟨(some 1), .box 3 true (.t 0), none, none⟩,
  ⟨(some 2), .mov (.c (.fz (.nilp))), none, none⟩,
  ⟨(some 3), .mov (.c (.fz (.int .i64 0))), none, some (.int .i64)⟩])
 (.seq (.seq (.region [⟨(some 8), .fadr 0 (.t 1), none, none⟩,
    ⟨(some 9), .load 1 false (.t 8), none, none⟩,
    ⟨(some 10), .call N_level_named [((.t 9), .fz)] [.fz], none, some .bool⟩,
    ⟨(some 11), .notB (.t 10), none, some .bool⟩])
   (.cond (.t 11) (.seq (.region [⟨(some 2), .mov (.c (.fz (.nilp))), none, none⟩,
      ⟨(some 3), .mov (.c (.fz (.int .i64 10))), none, some (.int .i64)⟩])
     (.ret))
    (.skip)))
  (.seq (.region [⟨(some 12), .fadr 0 (.t 1), none, none⟩,
    ⟨(some 13), .load 1 false (.t 12), none, none⟩,
    ⟨(some 14), .len (.sl 1 false) (.t 13), none, some (.int .i64)⟩,
    ⟨(some 4), .mov (.t 14), none, some (.int .i64)⟩])
   (.seq (.region [⟨(some 16), .mov (.t 4), none, some (.int .i64)⟩,
     ⟨(some 17), .fadr 1 (.t 1), none, none⟩,
     ⟨(some 18), .load 1 false (.t 17), none, none⟩,
     ⟨(some 19), .call N_level_laid [((.t 16), .fz), ((.t 18), .fz)] [.fz, .fz], none, none⟩,
     ⟨(some 15), .mov (.t 19), none, none⟩,
     ⟨(some 20), .extract (.t 15) 0, none, none⟩,
     ⟨(some 21), .extract (.t 15) 1, none, some .bool⟩,
     ⟨(some 5), .alloc 64 true (.fz (.ag [.bool false, .bool false, .bool false, .bool false, .bool false, .bool false, .bool false, .bool false, .bool false, .bool false, .bool false, .bool false, .bool false, .bool false, .bool false, .bool false, .bool false, .bool false, .bool false, .bool false, .bool false, .bool false, .bool false, .bool false, .bool false, .bool false, .bool false, .bool false, .bool false, .bool false, .bool false, .bool false, .bool false, .bool false, .bool false, .bool false, .bool false, .bool false, .bool false, .bool false, .bool false, .bool false, .bool false, .bool false, .bool false, .bool false, .bool false, .bool false, .bool false, .bool false, .bool false, .bool false, .bool false, .bool false, .bool false, .bool false, .bool false, .bool false, .bool false, .bool false, .bool false, .bool false, .bool false, .bool false])), none, none⟩,
     ⟨none, .store 64 true (.t 5) (.t 20), none, none⟩,
     ⟨(some 6), .mov (.t 21), none, some .bool⟩])
    (.seq (.seq (.region [⟨(some 22), .mov (.t 6), none, some .bool⟩,
       ⟨(some 23), .notB (.t 22), none, some .bool⟩])
      (.cond (.t 23) (.seq (.region [⟨(some 2), .mov (.c (.fz (.nilp))), none, none⟩,
         ⟨(some 3), .mov (.c (.fz (.int .i64 2))), none, some (.int .i64)⟩])
        (.ret))
       (.skip)))
     (.seq (.draws [⟨⟨(some 24), .buildSl 1 false 0 (.str ⟨#[]⟩) [], none, none⟩, []⟩,
       ⟨⟨(some 25), .fadr 0 (.t 1), none, none⟩, []⟩,
       ⟨⟨(some 26), .load 1 false (.t 25), none, none⟩, [1]⟩,
       ⟨⟨(some 27), .append 1 false 16 false (.t 24) (.t 26), none, none⟩, [0, 2]⟩,
       ⟨⟨(some 28), .load 64 true (.t 5), none, none⟩, []⟩,
       ⟨⟨(some 29), .mov (.t 4), none, some (.int .i64)⟩, []⟩,
       ⟨⟨(some 30), .call N_level_closed [((.t 28), .fz), ((.t 29), .fz)] [.fz], none, none⟩, [4, 5, 3]⟩,
       ⟨⟨(some 31), .build 195 [.nils, .fz (.bool false), .fz (.bool false), .fz (.bool false), .fz (.bool false), .fz (.bool false), .fz (.bool false), .fz (.bool false), .fz (.bool false), .fz (.bool false), .fz (.bool false), .fz (.bool false), .fz (.bool false), .fz (.bool false), .fz (.bool false), .fz (.bool false), .fz (.bool false), .fz (.bool false), .fz (.bool false), .fz (.bool false), .fz (.bool false), .fz (.bool false), .fz (.bool false), .fz (.bool false), .fz (.bool false), .fz (.bool false), .fz (.bool false), .fz (.bool false), .fz (.bool false), .fz (.bool false), .fz (.bool false), .fz (.bool false), .fz (.bool false), .fz (.bool false), .fz (.bool false), .fz (.bool false), .fz (.bool false), .fz (.bool false), .fz (.bool false), .fz (.bool false), .fz (.bool false), .fz (.bool false), .fz (.bool false), .fz (.bool false), .fz (.bool false), .fz (.bool false), .fz (.bool false), .fz (.bool false), .fz (.bool false), .fz (.bool false), .fz (.bool false), .fz (.bool false), .fz (.bool false), .fz (.bool false), .fz (.bool false), .fz (.bool false), .fz (.bool false), .fz (.bool false), .fz (.bool false), .fz (.bool false), .fz (.bool false), .fz (.bool false), .fz (.bool false), .fz (.bool false), .fz (.bool false), .fz (.int .i64 0), .fz (.int .i64 0), .fz (.int .i64 0), .fz (.int .i64 0), .fz (.int .i64 0), .fz (.int .i64 0), .fz (.int .i64 0), .fz (.int .i64 0), .fz (.int .i64 0), .fz (.int .i64 0), .fz (.int .i64 0), .fz (.int .i64 0), .fz (.int .i64 0), .fz (.int .i64 0), .fz (.int .i64 0), .fz (.int .i64 0), .fz (.int .i64 0), .fz (.int .i64 0), .fz (.int .i64 0), .fz (.int .i64 0), .fz (.int .i64 0), .fz (.int .i64 0), .fz (.int .i64 0), .fz (.int .i64 0), .fz (.int .i64 0), .fz (.int .i64 0), .fz (.int .i64 0), .fz (.int .i64 0), .fz (.int .i64 0), .fz (.int .i64 0), .fz (.int .i64 0), .fz (.int .i64 0), .fz (.int .i64 0), .fz (.int .i64 0), .fz (.int .i64 0), .fz (.int .i64 0), .fz (.int .i64 0), .fz (.int .i64 0), .fz (.int .i64 0), .fz (.int .i64 0), .fz (.int .i64 0), .fz (.int .i64 0), .fz (.int .i64 0), .fz (.int .i64 0), .fz (.int .i64 0), .fz (.int .i64 0), .fz (.int .i64 0), .fz (.int .i64 0), .fz (.int .i64 0), .fz (.int .i64 0), .fz (.int .i64 0), .fz (.int .i64 0), .fz (.int .i64 0), .fz (.int .i64 0), .fz (.int .i64 0), .fz (.int .i64 0), .fz (.int .i64 0), .fz (.int .i64 0), .fz (.int .i64 0), .fz (.int .i64 0), .fz (.int .i64 0), .fz (.int .i64 0), .fz (.int .i64 0), .fz (.int .i64 0), .fz (.int .i64 0), .fz (.int .i64 0), .fz (.int .i64 0), .fz (.int .i64 0), .fz (.int .i64 0), .fz (.int .i64 0), .fz (.int .i64 0), .fz (.int .i64 0), .fz (.int .i64 0), .fz (.int .i64 0), .fz (.int .i64 0), .fz (.int .i64 0), .fz (.int .i64 0), .fz (.int .i64 0), .fz (.int .i64 0), .fz (.int .i64 0), .fz (.int .i64 0), .fz (.int .i64 0), .fz (.int .i64 0), .fz (.int .i64 0), .fz (.int .i64 0), .fz (.int .i64 0), .fz (.int .i64 0), .fz (.int .i64 0), .fz (.int .i64 0), .fz (.int .i64 0), .fz (.int .i64 0), .fz (.int .i64 0), .fz (.int .i64 0), .fz (.int .i64 0), .fz (.int .i64 0), .fz (.int .i64 0), .fz (.int .i64 0), .fz (.int .i64 0), .fz (.int .i64 0), .fz (.int .i64 0), .fz (.int .i64 0), .fz (.int .i64 0), .fz (.int .i64 0), .fz (.int .i64 0), .fz (.int .i64 0), .fz (.int .i64 0), .fz (.int .i64 0), .fz (.int .i64 0), .fz (.int .i64 0), .fz (.int .i64 0), .fz (.int .i64 0), .fz (.int .i64 0), .fz (.int .i64 0), .fz (.int .i64 0), .fz (.int .i64 0), .fz (.int .i64 0), .fz (.int .i64 0), .fz (.int .i64 0), .fz (.int .i64 0), .fz (.int .i64 0), .fz (.int .i64 0), .fz (.int .i64 0), .fz (.int .i64 0), .fz (.int .i64 0), .fz (.int .i64 0), .fz (.int .i64 0), .fz (.int .i64 0), .fz (.int .i64 0), .fz (.int .i64 0), .fz (.int .i64 0)] [(0, 1, false, (.t 27)), (1, 64, true, (.t 30))], none, none⟩, [3, 6]⟩,
       ⟨⟨(some 32), .box 195 true (.t 31), none, none⟩, [7]⟩,
       ⟨⟨(some 7), .mov (.t 32), none, none⟩, [8, 6, 0, 1, 2, 3, 4, 5, 6, 7, 8]⟩])
      (.seq (.seq (.region [⟨(some 33), .mov (.t 7), none, none⟩,
         ⟨(some 34), .nilck (.t 33), none, none⟩,
         ⟨(some 35), .fadr 1 (.t 34), none, none⟩,
         ⟨(some 36), .load 64 true (.t 35), none, none⟩,
         ⟨(some 37), .mov (.t 4), none, some (.int .i64)⟩,
         ⟨(some 38), .call N_level_twisted [((.t 36), .fz), ((.t 37), .fz)] [.fz], none, some .bool⟩,
         ⟨(some 39), .mov (.t 38), none, some .bool⟩,
         ⟨(some 40), .mov (.t 7), (some (39, false)), none⟩,
         ⟨(some 41), .mov (.t 4), (some (39, false)), some (.int .i64)⟩,
         ⟨(some 42), .call N_level_Lattice_fill [((.t 40), .pv 195 true), ((.t 41), .fz)] [.fz], (some (39, false)), some .bool⟩,
         ⟨(some 43), .notB (.t 42), (some (39, false)), some .bool⟩,
         ⟨(some 44), .pick (.t 39) (.c (.fz (.bool true))) (.t 43), none, some .bool⟩])
        (.cond (.t 44) (.seq (.region [⟨(some 2), .mov (.c (.fz (.nilp))), none, none⟩,
           ⟨(some 3), .mov (.c (.fz (.int .i64 9))), none, some (.int .i64)⟩])
          (.ret))
         (.skip)))
       (.seq (.region [⟨(some 45), .mov (.t 7), none, none⟩,
         ⟨(some 2), .mov (.t 45), none, none⟩,
         ⟨(some 3), .mov (.c (.fz (.int .i64 0))), none, some (.int .i64)⟩])
        (.ret))))))))⟩
theorem E_level_New (R : Orc) (k : Nat) (w : Bool) (a0_0 : List FV) (a0_1 : List FV) (a0_2 : List FV) : callL R k w A_level_New [.fz (FV.ag [(FV.sl a0_0), (FV.sl a0_1), (FV.sl a0_2)])] = onR (R N_level_named [.fz (FV.sl a0_0)]) fun r0 => when (List.isEmpty r0.2 && allF [.fz] r0.1) (when (FV.isBool (TV.toF (List.getD r0.1 0 TV.em))) (ifB (!(FV.toBool (TV.toF (List.getD r0.1 0 TV.em))))
  (some ([.fz FV.nilp, .fz (FV.int .i64 10)], []))
  (onR (R N_level_laid [.fz (FV.int .i64 (List.length a0_0 : Int)), .fz (FV.sl a0_1)]) fun r1 => when (List.isEmpty r1.2 && allF [.fz, .fz] r1.1) (when (FV.isBool (TV.toF (List.getD r1.1 1 TV.em))) (when (FV.fits 64 true (TV.toF (List.getD r1.1 0 TV.em))) (ifB (!(FV.toBool (TV.toF (List.getD r1.1 1 TV.em))))
   (some ([.fz FV.nilp, .fz (FV.int .i64 2)], []))
   (when (List.all a0_0 (FV.fits 1 false)) (when (decide (((0 : Nat) + List.length a0_0) * 16 ≤ roomy) && decide ((0 : Nat) + List.length a0_0 ≤ roomy)) (onR (R N_level_closed [.fz (TV.toF (List.getD r1.1 0 TV.em)), .fz (FV.int .i64 (List.length a0_0 : Int))]) fun r2 => when (List.isEmpty r2.2 && allF [.fz] r2.1) (when (FV.isAg 64 (TV.toF (List.getD r2.1 0 TV.em))) (onR (R N_level_twisted [.fz (FV.ag [(FV.cell (TV.toF (List.getD r2.1 0 TV.em)) 0), (FV.cell (TV.toF (List.getD r2.1 0 TV.em)) 1), (FV.cell (TV.toF (List.getD r2.1 0 TV.em)) 2), (FV.cell (TV.toF (List.getD r2.1 0 TV.em)) 3), (FV.cell (TV.toF (List.getD r2.1 0 TV.em)) 4), (FV.cell (TV.toF (List.getD r2.1 0 TV.em)) 5), (FV.cell (TV.toF (List.getD r2.1 0 TV.em)) 6), (FV.cell (TV.toF (List.getD r2.1 0 TV.em)) 7), (FV.cell (TV.toF (List.getD r2.1 0 TV.em)) 8), (FV.cell (TV.toF (List.getD r2.1 0 TV.em)) 9), (FV.cell (TV.toF (List.getD r2.1 0 TV.em)) 10), (FV.cell (TV.toF (List.getD r2.1 0 TV.em)) 11), (FV.cell (TV.toF (List.getD r2.1 0 TV.em)) 12), (FV.cell (TV.toF (List.getD r2.1 0 TV.em)) 13), (FV.cell (TV.toF (List.getD r2.1 0 TV.em)) 14), (FV.cell (TV.toF (List.getD r2.1 0 TV.em)) 15), (FV.cell (TV.toF (List.getD r2.1 0 TV.em)) 16), (FV.cell (TV.toF (List.getD r2.1 0 TV.em)) 17), (FV.cell (TV.toF (List.getD r2.1 0 TV.em)) 18), (FV.cell (TV.toF (List.getD r2.1 0 TV.em)) 19), (FV.cell (TV.toF (List.getD r2.1 0 TV.em)) 20), (FV.cell (TV.toF (List.getD r2.1 0 TV.em)) 21), (FV.cell (TV.toF (List.getD r2.1 0 TV.em)) 22), (FV.cell (TV.toF (List.getD r2.1 0 TV.em)) 23), (FV.cell (TV.toF (List.getD r2.1 0 TV.em)) 24), (FV.cell (TV.toF (List.getD r2.1 0 TV.em)) 25), (FV.cell (TV.toF (List.getD r2.1 0 TV.em)) 26), (FV.cell (TV.toF (List.getD r2.1 0 TV.em)) 27), (FV.cell (TV.toF (List.getD r2.1 0 TV.em)) 28), (FV.cell (TV.toF (List.getD r2.1 0 TV.em)) 29), (FV.cell (TV.toF (List.getD r2.1 0 TV.em)) 30), (FV.cell (TV.toF (List.getD r2.1 0 TV.em)) 31), (FV.cell (TV.toF (List.getD r2.1 0 TV.em)) 32), (FV.cell (TV.toF (List.getD r2.1 0 TV.em)) 33), (FV.cell (TV.toF (List.getD r2.1 0 TV.em)) 34), (FV.cell (TV.toF (List.getD r2.1 0 TV.em)) 35), (FV.cell (TV.toF (List.getD r2.1 0 TV.em)) 36), (FV.cell (TV.toF (List.getD r2.1 0 TV.em)) 37), (FV.cell (TV.toF (List.getD r2.1 0 TV.em)) 38), (FV.cell (TV.toF (List.getD r2.1 0 TV.em)) 39), (FV.cell (TV.toF (List.getD r2.1 0 TV.em)) 40), (FV.cell (TV.toF (List.getD r2.1 0 TV.em)) 41), (FV.cell (TV.toF (List.getD r2.1 0 TV.em)) 42), (FV.cell (TV.toF (List.getD r2.1 0 TV.em)) 43), (FV.cell (TV.toF (List.getD r2.1 0 TV.em)) 44), (FV.cell (TV.toF (List.getD r2.1 0 TV.em)) 45), (FV.cell (TV.toF (List.getD r2.1 0 TV.em)) 46), (FV.cell (TV.toF (List.getD r2.1 0 TV.em)) 47), (FV.cell (TV.toF (List.getD r2.1 0 TV.em)) 48), (FV.cell (TV.toF (List.getD r2.1 0 TV.em)) 49), (FV.cell (TV.toF (List.getD r2.1 0 TV.em)) 50), (FV.cell (TV.toF (List.getD r2.1 0 TV.em)) 51), (FV.cell (TV.toF (List.getD r2.1 0 TV.em)) 52), (FV.cell (TV.toF (List.getD r2.1 0 TV.em)) 53), (FV.cell (TV.toF (List.getD r2.1 0 TV.em)) 54), (FV.cell (TV.toF (List.getD r2.1 0 TV.em)) 55), (FV.cell (TV.toF (List.getD r2.1 0 TV.em)) 56), (FV.cell (TV.toF (List.getD r2.1 0 TV.em)) 57), (FV.cell (TV.toF (List.getD r2.1 0 TV.em)) 58), (FV.cell (TV.toF (List.getD r2.1 0 TV.em)) 59), (FV.cell (TV.toF (List.getD r2.1 0 TV.em)) 60), (FV.cell (TV.toF (List.getD r2.1 0 TV.em)) 61), (FV.cell (TV.toF (List.getD r2.1 0 TV.em)) 62), (FV.cell (TV.toF (List.getD r2.1 0 TV.em)) 63)]), .fz (FV.int .i64 (List.length a0_0 : Int))]) fun r3 => when (List.isEmpty r3.2 && allF [.fz] r3.1) (when (FV.isBool (TV.toF (List.getD r3.1 0 TV.em))) (ifB (FV.toBool (TV.toF (List.getD r3.1 0 TV.em)))
    (some ([.fz FV.nilp, .fz (FV.int .i64 9)], []))
    (onR (R N_level_Lattice_fill [.pv 195 true (.fz (FV.ag [(FV.sl a0_0), (FV.cell (TV.toF (List.getD r2.1 0 TV.em)) 0), (FV.cell (TV.toF (List.getD r2.1 0 TV.em)) 1), (FV.cell (TV.toF (List.getD r2.1 0 TV.em)) 2), (FV.cell (TV.toF (List.getD r2.1 0 TV.em)) 3), (FV.cell (TV.toF (List.getD r2.1 0 TV.em)) 4), (FV.cell (TV.toF (List.getD r2.1 0 TV.em)) 5), (FV.cell (TV.toF (List.getD r2.1 0 TV.em)) 6), (FV.cell (TV.toF (List.getD r2.1 0 TV.em)) 7), (FV.cell (TV.toF (List.getD r2.1 0 TV.em)) 8), (FV.cell (TV.toF (List.getD r2.1 0 TV.em)) 9), (FV.cell (TV.toF (List.getD r2.1 0 TV.em)) 10), (FV.cell (TV.toF (List.getD r2.1 0 TV.em)) 11), (FV.cell (TV.toF (List.getD r2.1 0 TV.em)) 12), (FV.cell (TV.toF (List.getD r2.1 0 TV.em)) 13), (FV.cell (TV.toF (List.getD r2.1 0 TV.em)) 14), (FV.cell (TV.toF (List.getD r2.1 0 TV.em)) 15), (FV.cell (TV.toF (List.getD r2.1 0 TV.em)) 16), (FV.cell (TV.toF (List.getD r2.1 0 TV.em)) 17), (FV.cell (TV.toF (List.getD r2.1 0 TV.em)) 18), (FV.cell (TV.toF (List.getD r2.1 0 TV.em)) 19), (FV.cell (TV.toF (List.getD r2.1 0 TV.em)) 20), (FV.cell (TV.toF (List.getD r2.1 0 TV.em)) 21), (FV.cell (TV.toF (List.getD r2.1 0 TV.em)) 22), (FV.cell (TV.toF (List.getD r2.1 0 TV.em)) 23), (FV.cell (TV.toF (List.getD r2.1 0 TV.em)) 24), (FV.cell (TV.toF (List.getD r2.1 0 TV.em)) 25), (FV.cell (TV.toF (List.getD r2.1 0 TV.em)) 26), (FV.cell (TV.toF (List.getD r2.1 0 TV.em)) 27), (FV.cell (TV.toF (List.getD r2.1 0 TV.em)) 28), (FV.cell (TV.toF (List.getD r2.1 0 TV.em)) 29), (FV.cell (TV.toF (List.getD r2.1 0 TV.em)) 30), (FV.cell (TV.toF (List.getD r2.1 0 TV.em)) 31), (FV.cell (TV.toF (List.getD r2.1 0 TV.em)) 32), (FV.cell (TV.toF (List.getD r2.1 0 TV.em)) 33), (FV.cell (TV.toF (List.getD r2.1 0 TV.em)) 34), (FV.cell (TV.toF (List.getD r2.1 0 TV.em)) 35), (FV.cell (TV.toF (List.getD r2.1 0 TV.em)) 36), (FV.cell (TV.toF (List.getD r2.1 0 TV.em)) 37), (FV.cell (TV.toF (List.getD r2.1 0 TV.em)) 38), (FV.cell (TV.toF (List.getD r2.1 0 TV.em)) 39), (FV.cell (TV.toF (List.getD r2.1 0 TV.em)) 40), (FV.cell (TV.toF (List.getD r2.1 0 TV.em)) 41), (FV.cell (TV.toF (List.getD r2.1 0 TV.em)) 42), (FV.cell (TV.toF (List.getD r2.1 0 TV.em)) 43), (FV.cell (TV.toF (List.getD r2.1 0 TV.em)) 44), (FV.cell (TV.toF (List.getD r2.1 0 TV.em)) 45), (FV.cell (TV.toF (List.getD r2.1 0 TV.em)) 46), (FV.cell (TV.toF (List.getD r2.1 0 TV.em)) 47), (FV.cell (TV.toF (List.getD r2.1 0 TV.em)) 48), (FV.cell (TV.toF (List.getD r2.1 0 TV.em)) 49), (FV.cell (TV.toF (List.getD r2.1 0 TV.em)) 50), (FV.cell (TV.toF (List.getD r2.1 0 TV.em)) 51), (FV.cell (TV.toF (List.getD r2.1 0 TV.em)) 52), (FV.cell (TV.toF (List.getD r2.1 0 TV.em)) 53), (FV.cell (TV.toF (List.getD r2.1 0 TV.em)) 54), (FV.cell (TV.toF (List.getD r2.1 0 TV.em)) 55), (FV.cell (TV.toF (List.getD r2.1 0 TV.em)) 56), (FV.cell (TV.toF (List.getD r2.1 0 TV.em)) 57), (FV.cell (TV.toF (List.getD r2.1 0 TV.em)) 58), (FV.cell (TV.toF (List.getD r2.1 0 TV.em)) 59), (FV.cell (TV.toF (List.getD r2.1 0 TV.em)) 60), (FV.cell (TV.toF (List.getD r2.1 0 TV.em)) 61), (FV.cell (TV.toF (List.getD r2.1 0 TV.em)) 62), (FV.cell (TV.toF (List.getD r2.1 0 TV.em)) 63), (FV.int .i64 0), (FV.int .i64 0), (FV.int .i64 0), (FV.int .i64 0), (FV.int .i64 0), (FV.int .i64 0), (FV.int .i64 0), (FV.int .i64 0), (FV.int .i64 0), (FV.int .i64 0), (FV.int .i64 0), (FV.int .i64 0), (FV.int .i64 0), (FV.int .i64 0), (FV.int .i64 0), (FV.int .i64 0), (FV.int .i64 0), (FV.int .i64 0), (FV.int .i64 0), (FV.int .i64 0), (FV.int .i64 0), (FV.int .i64 0), (FV.int .i64 0), (FV.int .i64 0), (FV.int .i64 0), (FV.int .i64 0), (FV.int .i64 0), (FV.int .i64 0), (FV.int .i64 0), (FV.int .i64 0), (FV.int .i64 0), (FV.int .i64 0), (FV.int .i64 0), (FV.int .i64 0), (FV.int .i64 0), (FV.int .i64 0), (FV.int .i64 0), (FV.int .i64 0), (FV.int .i64 0), (FV.int .i64 0), (FV.int .i64 0), (FV.int .i64 0), (FV.int .i64 0), (FV.int .i64 0), (FV.int .i64 0), (FV.int .i64 0), (FV.int .i64 0), (FV.int .i64 0), (FV.int .i64 0), (FV.int .i64 0), (FV.int .i64 0), (FV.int .i64 0), (FV.int .i64 0), (FV.int .i64 0), (FV.int .i64 0), (FV.int .i64 0), (FV.int .i64 0), (FV.int .i64 0), (FV.int .i64 0), (FV.int .i64 0), (FV.int .i64 0), (FV.int .i64 0), (FV.int .i64 0), (FV.int .i64 0), (FV.int .i64 0), (FV.int .i64 0), (FV.int .i64 0), (FV.int .i64 0), (FV.int .i64 0), (FV.int .i64 0), (FV.int .i64 0), (FV.int .i64 0), (FV.int .i64 0), (FV.int .i64 0), (FV.int .i64 0), (FV.int .i64 0), (FV.int .i64 0), (FV.int .i64 0), (FV.int .i64 0), (FV.int .i64 0), (FV.int .i64 0), (FV.int .i64 0), (FV.int .i64 0), (FV.int .i64 0), (FV.int .i64 0), (FV.int .i64 0), (FV.int .i64 0), (FV.int .i64 0), (FV.int .i64 0), (FV.int .i64 0), (FV.int .i64 0), (FV.int .i64 0), (FV.int .i64 0), (FV.int .i64 0), (FV.int .i64 0), (FV.int .i64 0), (FV.int .i64 0), (FV.int .i64 0), (FV.int .i64 0), (FV.int .i64 0), (FV.int .i64 0), (FV.int .i64 0), (FV.int .i64 0), (FV.int .i64 0), (FV.int .i64 0), (FV.int .i64 0), (FV.int .i64 0), (FV.int .i64 0), (FV.int .i64 0), (FV.int .i64 0), (FV.int .i64 0), (FV.int .i64 0), (FV.int .i64 0), (FV.int .i64 0), (FV.int .i64 0), (FV.int .i64 0), (FV.int .i64 0), (FV.int .i64 0), (FV.int .i64 0), (FV.int .i64 0), (FV.int .i64 0), (FV.int .i64 0), (FV.int .i64 0), (FV.int .i64 0), (FV.int .i64 0), (FV.int .i64 0), (FV.int .i64 0), (FV.int .i64 0), (FV.int .i64 0), (FV.int .i64 0)])), .fz (FV.int .i64 (List.length a0_0 : Int))]) fun r4 => when (List.length r4.2 == 1 && (List.all r4.2 LV.isFz && List.length r4.1 == 1)) (when (TV.isF (List.getD r4.1 0 TV.em)) (when (FV.isBool (TV.toF (List.getD r4.1 0 TV.em))) (ifB (!(FV.toBool (TV.toF (List.getD r4.1 0 TV.em))))
     (some ([.fz FV.nilp, .fz (FV.int .i64 9)], []))
     (some ([.fz (FV.pt 195 true (LV.toFz (List.getD r4.2 0 LV.nils)) 0), .fz (FV.int .i64 0)], []))))))))))))))))))) := by kernel_rfl
/-! keyhole/keyholeref01.Table -/
def A_ref01_Table_b1 : ACode := .seq (.seq (.region [⟨(some 27), .mov (.t 8), none, some (.int .i64)⟩,
   ⟨(some 28), .fadr 1 (.t 1), none, none⟩,
   ⟨(some 29), .load 1 false (.t 28), none, none⟩,
   ⟨(some 30), .len (.sl 2 true) (.t 29), none, some (.int .i64)⟩,
   ⟨(some 31), .binI .lss .i64 (.t 27) (.t 30), none, some .bool⟩])
  (.cond (.t 31) (.skip)
   (.exit 4)))
 (.seq (.block 5 (.seq (.region [⟨(some 34), .mov (.t 6), none, none⟩,
     ⟨(some 35), .fadr 1 (.t 1), none, none⟩,
     ⟨(some 36), .load 1 false (.t 35), none, none⟩,
     ⟨(some 37), .mov (.t 8), none, some (.int .i64)⟩,
     ⟨(some 38), .iadr (.sl 2 true) (.t 36) (.t 37), none, none⟩,
     ⟨(some 39), .iadr (.arr 2 1 false) (.t 38) (.c (.fz (.int .i64 0))), none, none⟩,
     ⟨(some 40), .load 1 false (.t 39), none, some (.int .i64)⟩,
     ⟨(some 41), .iadr (.sl 1 false) (.t 34) (.t 40), none, none⟩,
     ⟨(some 42), .load 1 false (.t 41), none, some .bool⟩])
    (.cond (.t 42) (.region [⟨(some 43), .mov (.t 6), none, none⟩,
      ⟨(some 44), .fadr 1 (.t 1), none, none⟩,
      ⟨(some 45), .load 1 false (.t 44), none, none⟩,
      ⟨(some 46), .mov (.t 8), none, some (.int .i64)⟩,
      ⟨(some 47), .iadr (.sl 2 true) (.t 45) (.t 46), none, none⟩,
      ⟨(some 48), .iadr (.arr 2 1 false) (.t 47) (.c (.fz (.int .i64 1))), none, none⟩,
      ⟨(some 49), .load 1 false (.t 48), none, some (.int .i64)⟩,
      ⟨(some 50), .iadr (.sl 1 false) (.t 43) (.t 49), none, none⟩,
      ⟨none, .store 1 false (.t 50) (.c (.fz (.bool true))), none, none⟩])
     (.skip))))
  (.region [⟨(some 32), .mov (.t 8), none, some (.int .i64)⟩,
   ⟨(some 33), .binI .add .i64 (.t 32) (.c (.fz (.int .i64 1))), none, some (.int .i64)⟩,
   ⟨(some 8), .mov (.t 33), none, some (.int .i64)⟩]))
def A_ref01_Table_s1 : ACode := .region [⟨(some 25), .mov (.t 7), none, some (.int .i64)⟩,
 ⟨(some 26), .binI .add .i64 (.t 25) (.c (.fz (.int .i64 1))), none, some (.int .i64)⟩,
 ⟨(some 7), .mov (.t 26), none, some (.int .i64)⟩]
def A_ref01_Table_b2 : ACode := .seq (.seq (.region [⟨(some 22), .mov (.t 7), none, some (.int .i64)⟩,
   ⟨(some 23), .mov (.t 3), none, some (.int .i64)⟩,
   ⟨(some 24), .binI .lss .i64 (.t 22) (.t 23), none, some .bool⟩])
  (.cond (.t 24) (.skip)
   (.exit 2)))
 (.seq (.block 3 (.seq (.region [⟨(some 8), .mov (.c (.fz (.int .i64 0))), none, some (.int .i64)⟩])
    (.block 4 (.loop [1, 3, 4, 5, 6, 7, 8] [1, 3, 4, 5, 6, 7] A_ref01_Table_b1))))
  A_ref01_Table_s1)
def A_ref01_Table_s2 : ACode := .region [⟨(some 51), .mov (.t 4), none, none⟩,
 ⟨(some 52), .mov (.t 6), none, none⟩,
 ⟨(some 53), .buildSl 1 false 1 (.sl []) [(0, (.t 52))], none, none⟩,
 ⟨(some 54), .append 1 false 24 false (.t 51) (.t 53), none, none⟩,
 ⟨(some 4), .mov (.t 54), none, none⟩]
def A_ref01_Table_s3 : ACode := .region [⟨(some 15), .mov (.t 5), none, some (.int .i64)⟩,
 ⟨(some 16), .binI .add .i64 (.t 15) (.c (.fz (.int .i64 1))), none, some (.int .i64)⟩,
 ⟨(some 5), .mov (.t 16), none, some (.int .i64)⟩]
def A_ref01_Table_b3 : ACode := .seq (.seq (.region [⟨(some 12), .mov (.t 5), none, some (.int .i64)⟩,
   ⟨(some 13), .mov (.t 3), none, some (.int .i64)⟩,
   ⟨(some 14), .binI .lss .i64 (.t 12) (.t 13), none, some .bool⟩])
  (.cond (.t 14) (.skip)
   (.exit 0)))
 (.seq (.block 1 (.seq (.region [⟨(some 17), .mov (.t 3), none, some (.int .i64)⟩,
     ⟨(some 18), .mkSl 1 false 1 (.bool false) (.t 17) (.t 17), none, none⟩,
     ⟨(some 6), .mov (.t 18), none, none⟩])
    (.seq (.region [⟨(some 19), .mov (.t 6), none, none⟩,
      ⟨(some 20), .mov (.t 5), none, some (.int .i64)⟩,
      ⟨(some 21), .iadr (.sl 1 false) (.t 19) (.t 20), none, none⟩,
      ⟨none, .store 1 false (.t 21) (.c (.fz (.bool true))), none, none⟩])
     (.seq (.seq (.region [⟨(some 7), .mov (.c (.fz (.int .i64 0))), none, some (.int .i64)⟩])
       (.block 2 (.loop [1, 3, 4, 5, 6, 7] [1, 3, 4, 5, 6] A_ref01_Table_b2)))
      A_ref01_Table_s2))))
  A_ref01_Table_s3)
def A_ref01_Table_s4 : ACode := .seq (.region [⟨(some 55), .mov (.t 4), none, none⟩,
  ⟨(some 2), .mov (.t 55), none, none⟩])
 (.ret)
def A_ref01_Table : AFunc := ⟨1, [(.tmp 2, .fz)], .seq (.region [⟨(some 1), .box 3 true (.t 0), none, none⟩,
  ⟨(some 2), .mov (.c (.nils)), none, none⟩])
 (.seq (.region [⟨(some 9), .fadr 0 (.t 1), none, none⟩,
   ⟨(some 10), .load 1 false (.t 9), none, none⟩,
   ⟨(some 11), .len (.sl 1 false) (.t 10), none, some (.int .i64)⟩,
   ⟨(some 3), .mov (.t 11), none, some (.int .i64)⟩])
  (.seq (.region [⟨(some 4), .mov (.c (.nils)), none, none⟩])
   (.seq (.seq (.region [⟨(some 5), .mov (.c (.fz (.int .i64 0))), none, some (.int .i64)⟩])
     (.block 0 (.loop [1, 3, 4, 5] [4] A_ref01_Table_b3)))
    A_ref01_Table_s4)))⟩
def K_ref01_Table_3 (R : Orc) (k : Nat) (w : Bool) : AExit → St → Option Ans := (kBlk 0 (kSeq R k w [] A_ref01_Table_s4 (kFin R [(.tmp 2, .fz)] [])))
def L_ref01_Table_3_0 (R : Orc) (k : Nat) (w : Bool) (n : Nat) (x3 : Int) (x5 : Int) (h4096_0 : List FV) (h4096_1 : List FV) (h4096_2 : List FV) := loopL R k w [] [1, 3, 4, 5] [4] A_ref01_Table_b3 n ⟨[(1, .ptr 4096 0 0), (3, .fz (FV.int .i64 x3)), (4, .nils), (5, .fz (FV.int .i64 x5))], [(4095, .dead), (4096, .var 3 true (.fz (FV.ag [(FV.sl h4096_0), (FV.sl h4096_1), (FV.sl h4096_2)])))]⟩
def K_ref01_Table_2 (R : Orc) (k : Nat) (w : Bool) (n : Nat) : AExit → St → Option (AExit × St) := (kBlk 2 (kSeq R k w [] A_ref01_Table_s2 (kBlk 1 (kSeq R k w [] A_ref01_Table_s3 (kLoop R k w [] [1, 3, 4, 5] [4] A_ref01_Table_b3 n)))))
def L_ref01_Table_2_0 (R : Orc) (k : Nat) (w : Bool) (n : Nat) (x3 : Int) (x5 : Int) (x7 : Int) (h4096_0 : List FV) (h4096_1 : List FV) (h4096_2 : List FV) (h4097 : List FV) := loopL R k w [] [1, 3, 4, 5, 6, 7] [1, 3, 4, 5, 6] A_ref01_Table_b2 n ⟨[(1, .ptr 4096 0 0), (3, .fz (FV.int .i64 x3)), (4, .nils), (5, .fz (FV.int .i64 x5)), (6, .rw 4097), (7, .fz (FV.int .i64 x7))], [(4095, .dead), (4096, .var 3 true (.fz (FV.ag [(FV.sl h4096_0), (FV.sl h4096_1), (FV.sl h4096_2)]))), (4097, .row 1 false h4097)]⟩
def X_ref01_Table_3_0 : St := ⟨[(4, .nils)], [(4095, .dead)]⟩
def K_ref01_Table_1 (R : Orc) (k : Nat) (w : Bool) (n : Nat) : AExit → St → Option (AExit × St) := (kBlk 4 (kBlk 3 (kSeq R k w [] A_ref01_Table_s1 (kLoop R k w [] [1, 3, 4, 5, 6, 7] [1, 3, 4, 5, 6] A_ref01_Table_b2 n))))
def L_ref01_Table_1_0 (R : Orc) (k : Nat) (w : Bool) (n : Nat) (x3 : Int) (x5 : Int) (x7 : Int) (x8 : Int) (h4096_0 : List FV) (h4096_1 : List FV) (h4096_2 : List FV) (h4097 : List FV) := loopL R k w [] [1, 3, 4, 5, 6, 7, 8] [1, 3, 4, 5, 6, 7] A_ref01_Table_b1 n ⟨[(1, .ptr 4096 0 0), (3, .fz (FV.int .i64 x3)), (4, .nils), (5, .fz (FV.int .i64 x5)), (6, .rw 4097), (7, .fz (FV.int .i64 x7)), (8, .fz (FV.int .i64 x8))], [(4095, .dead), (4096, .var 3 true (.fz (FV.ag [(FV.sl h4096_0), (FV.sl h4096_1), (FV.sl h4096_2)]))), (4097, .row 1 false h4097)]⟩
def X_ref01_Table_2_0 (x3 : Int) (x5 : Int) (h4096_0 : List FV) (h4096_1 : List FV) (h4096_2 : List FV) (h4097 : List FV) : St := ⟨[(1, .ptr 4096 0 0), (3, .fz (FV.int .i64 x3)), (4, .nils), (5, .fz (FV.int .i64 x5)), (6, .rw 4097)], [(4095, .dead), (4096, .var 3 true (.fz (FV.ag [(FV.sl h4096_0), (FV.sl h4096_1), (FV.sl h4096_2)]))), (4097, .row 1 false h4097)]⟩
def X_ref01_Table_1_0 (x3 : Int) (x5 : Int) (x7 : Int) (h4096_0 : List FV) (h4096_1 : List FV) (h4096_2 : List FV) (h4097 : List FV) : St := ⟨[(1, .ptr 4096 0 0), (3, .fz (FV.int .i64 x3)), (4, .nils), (5, .fz (FV.int .i64 x5)), (6, .rw 4097), (7, .fz (FV.int .i64 x7))], [(4095, .dead), (4096, .var 3 true (.fz (FV.ag [(FV.sl h4096_0), (FV.sl h4096_1), (FV.sl h4096_2)]))), (4097, .row 1 false h4097)]⟩
def L_ref01_Table_3_1 (R : Orc) (k : Nat) (w : Bool) (n : Nat) (x3 : Int) (x5 : Int) (h4096_0 : List FV) (h4096_1 : List FV) (h4096_2 : List FV) (h4097 : List FV) := loopL R k w [] [1, 3, 4, 5] [4] A_ref01_Table_b3 n ⟨[(1, .ptr 4096 0 0), (3, .fz (FV.int .i64 x3)), (4, .rw 4097), (5, .fz (FV.int .i64 x5))], [(4095, .dead), (4096, .var 3 true (.fz (FV.ag [(FV.sl h4096_0), (FV.sl h4096_1), (FV.sl h4096_2)]))), (4097, .row 1 false h4097)]⟩
def L_ref01_Table_2_1 (R : Orc) (k : Nat) (w : Bool) (n : Nat) (x3 : Int) (x5 : Int) (x7 : Int) (h4096_0 : List FV) (h4096_1 : List FV) (h4096_2 : List FV) (h4097 : List FV) (h4098 : List FV) := loopL R k w [] [1, 3, 4, 5, 6, 7] [1, 3, 4, 5, 6] A_ref01_Table_b2 n ⟨[(1, .ptr 4096 0 0), (3, .fz (FV.int .i64 x3)), (4, .rw 4097), (5, .fz (FV.int .i64 x5)), (6, .rw 4098), (7, .fz (FV.int .i64 x7))], [(4095, .dead), (4096, .var 3 true (.fz (FV.ag [(FV.sl h4096_0), (FV.sl h4096_1), (FV.sl h4096_2)]))), (4097, .row 1 false h4097), (4098, .row 1 false h4098)]⟩
def X_ref01_Table_3_1 (h4096 : List FV) : St := ⟨[(4, .rw 4096)], [(4095, .dead), (4096, .row 1 false h4096)]⟩
def L_ref01_Table_1_1 (R : Orc) (k : Nat) (w : Bool) (n : Nat) (x3 : Int) (x5 : Int) (x7 : Int) (x8 : Int) (h4096_0 : List FV) (h4096_1 : List FV) (h4096_2 : List FV) (h4097 : List FV) (h4098 : List FV) := loopL R k w [] [1, 3, 4, 5, 6, 7, 8] [1, 3, 4, 5, 6, 7] A_ref01_Table_b1 n ⟨[(1, .ptr 4096 0 0), (3, .fz (FV.int .i64 x3)), (4, .rw 4097), (5, .fz (FV.int .i64 x5)), (6, .rw 4098), (7, .fz (FV.int .i64 x7)), (8, .fz (FV.int .i64 x8))], [(4095, .dead), (4096, .var 3 true (.fz (FV.ag [(FV.sl h4096_0), (FV.sl h4096_1), (FV.sl h4096_2)]))), (4097, .row 1 false h4097), (4098, .row 1 false h4098)]⟩
def X_ref01_Table_2_1 (x3 : Int) (x5 : Int) (h4096_0 : List FV) (h4096_1 : List FV) (h4096_2 : List FV) (h4097 : List FV) (h4098 : List FV) : St := ⟨[(1, .ptr 4096 0 0), (3, .fz (FV.int .i64 x3)), (4, .rw 4097), (5, .fz (FV.int .i64 x5)), (6, .rw 4098)], [(4095, .dead), (4096, .var 3 true (.fz (FV.ag [(FV.sl h4096_0), (FV.sl h4096_1), (FV.sl h4096_2)]))), (4097, .row 1 false h4097), (4098, .row 1 false h4098)]⟩
def X_ref01_Table_1_1 (x3 : Int) (x5 : Int) (x7 : Int) (h4096_0 : List FV) (h4096_1 : List FV) (h4096_2 : List FV) (h4097 : List FV) (h4098 : List FV) : St := ⟨[(1, .ptr 4096 0 0), (3, .fz (FV.int .i64 x3)), (4, .rw 4097), (5, .fz (FV.int .i64 x5)), (6, .rw 4098), (7, .fz (FV.int .i64 x7))], [(4095, .dead), (4096, .var 3 true (.fz (FV.ag [(FV.sl h4096_0), (FV.sl h4096_1), (FV.sl h4096_2)]))), (4097, .row 1 false h4097), (4098, .row 1 false h4098)]⟩
theorem E_ref01_Table (R : Orc) (k : Nat) (w : Bool) (a0_0 : List FV) (a0_1 : List FV) (a0_2 : List FV) : callL R k w A_ref01_Table [.fz (FV.ag [(FV.sl a0_0), (FV.sl a0_1), (FV.sl a0_2)])] = onL (L_ref01_Table_3_0 R k w k (List.length a0_0 : Int) 0 a0_0 a0_1 a0_2) (K_ref01_Table_3 R k w) := by kernel_rfl
theorem L_ref01_Table_3_0_eq (R : Orc) (k : Nat) (w : Bool) (n : Nat) (x3 : Int) (x5 : Int) (h4096_0 : List FV) (h4096_1 : List FV) (h4096_2 : List FV) : L_ref01_Table_3_0 R k w (n + 1) x3 x5 h4096_0 h4096_1 h4096_2 = ifB (decide (x5 < x3))
  (when (decide (0 ≤ x3) && (decide (x3 ≤ x3) && (decide (1 * x3 ≤ roomy) && decide (x3 ≤ roomy)))) (when ((decide (0 ≤ x5)) && (decide (x5 < (List.length (List.replicate (Int.toNat x3) (FV.bool false)) : Int)))) (when (Nat.blt (Int.toNat x5) (List.length (List.replicate (Int.toNat x3) (FV.bool false)))) (onL (L_ref01_Table_2_0 R k w k x3 x5 0 h4096_0 h4096_1 h4096_2 (List.set (List.replicate (Int.toNat x3) (FV.bool false)) (Int.toNat x5) (FV.bool true))) (K_ref01_Table_2 R k w n)))))
  (some ((.exit 0), X_ref01_Table_3_0)) := by kernel_rfl
theorem L_ref01_Table_2_0_eq (R : Orc) (k : Nat) (w : Bool) (n : Nat) (x3 : Int) (x5 : Int) (x7 : Int) (h4096_0 : List FV) (h4096_1 : List FV) (h4096_2 : List FV) (h4097 : List FV) : L_ref01_Table_2_0 R k w (n + 1) x3 x5 x7 h4096_0 h4096_1 h4096_2 h4097 = ifB (decide (x7 < x3))
  (onL (L_ref01_Table_1_0 R k w k x3 x5 x7 0 h4096_0 h4096_1 h4096_2 h4097) (K_ref01_Table_1 R k w n))
  (some ((.exit 2), X_ref01_Table_2_0 x3 x5 h4096_0 h4096_1 h4096_2 h4097)) := by kernel_rfl
theorem X_ref01_Table_3_0_eq (R : Orc) (k : Nat) (w : Bool) : K_ref01_Table_3 R k w (.exit 0) (X_ref01_Table_3_0) = some ([.fz (FV.sl [])], []) := by kernel_rfl
theorem L_ref01_Table_1_0_eq (R : Orc) (k : Nat) (w : Bool) (n : Nat) (x3 : Int) (x5 : Int) (x7 : Int) (x8 : Int) (h4096_0 : List FV) (h4096_1 : List FV) (h4096_2 : List FV) (h4097 : List FV) : L_ref01_Table_1_0 R k w (n + 1) x3 x5 x7 x8 h4096_0 h4096_1 h4096_2 h4097 = ifB (decide (x8 < (List.length h4096_1 : Int)))
  (when ((decide (0 ≤ x8)) && (decide (x8 < (List.length h4096_1 : Int)))) (when (FV.fits 2 true (List.getD h4096_1 (Int.toNat x8) FV.nilp)) (when (FV.isAg 2 (List.getD h4096_1 (Int.toNat x8) FV.nilp)) (when (FV.isInt .i64 (FV.cell (List.getD h4096_1 (Int.toNat x8) FV.nilp) 0)) (when ((decide (0 ≤ (FV.toInt (FV.cell (List.getD h4096_1 (Int.toNat x8) FV.nilp) 0)))) && (decide ((FV.toInt (FV.cell (List.getD h4096_1 (Int.toNat x8) FV.nilp) 0)) < (List.length h4097 : Int)))) (when (Nat.blt (Int.toNat (FV.toInt (FV.cell (List.getD h4096_1 (Int.toNat x8) FV.nilp) 0))) (List.length h4097)) (when (FV.isBool (List.getD h4097 (Int.toNat (FV.toInt (FV.cell (List.getD h4096_1 (Int.toNat x8) FV.nilp) 0))) FV.nilp)) (ifB (FV.toBool (List.getD h4097 (Int.toNat (FV.toInt (FV.cell (List.getD h4096_1 (Int.toNat x8) FV.nilp) 0))) FV.nilp))
   (when ((decide (0 ≤ x8)) && (decide (x8 < (List.length h4096_1 : Int)))) (when (FV.fits 2 true (List.getD h4096_1 (Int.toNat x8) FV.nilp)) (when (FV.isAg 2 (List.getD h4096_1 (Int.toNat x8) FV.nilp)) (when (FV.isInt .i64 (FV.cell (List.getD h4096_1 (Int.toNat x8) FV.nilp) 1)) (when ((decide (0 ≤ (FV.toInt (FV.cell (List.getD h4096_1 (Int.toNat x8) FV.nilp) 1)))) && (decide ((FV.toInt (FV.cell (List.getD h4096_1 (Int.toNat x8) FV.nilp) 1)) < (List.length h4097 : Int)))) (when (Nat.blt (Int.toNat (FV.toInt (FV.cell (List.getD h4096_1 (Int.toNat x8) FV.nilp) 1))) (List.length h4097)) (L_ref01_Table_1_0 R k w n x3 x5 x7 (IntKind.wrap .i64 (x8 + 1)) h4096_0 h4096_1 h4096_2 (List.set h4097 (Int.toNat (FV.toInt (FV.cell (List.getD h4096_1 (Int.toNat x8) FV.nilp) 1))) (FV.bool true)))))))))
   (L_ref01_Table_1_0 R k w n x3 x5 x7 (IntKind.wrap .i64 (x8 + 1)) h4096_0 h4096_1 h4096_2 h4097)))))))))
  (some ((.exit 4), X_ref01_Table_1_0 x3 x5 x7 h4096_0 h4096_1 h4096_2 h4097)) := by kernel_rfl
theorem X_ref01_Table_2_0_eq (R : Orc) (k : Nat) (w : Bool) (n : Nat) (x3 : Int) (x5 : Int) (h4096_0 : List FV) (h4096_1 : List FV) (h4096_2 : List FV) (h4097 : List FV) : K_ref01_Table_2 R k w n (.exit 2) (X_ref01_Table_2_0 x3 x5 h4096_0 h4096_1 h4096_2 h4097) = when (decide (((0 : Nat) + List.length [(FV.sl h4097)]) * 24 ≤ roomy) && decide ((0 : Nat) + List.length [(FV.sl h4097)] ≤ roomy)) (L_ref01_Table_3_1 R k w n x3 (IntKind.wrap .i64 (x5 + 1)) h4096_0 h4096_1 h4096_2 [(FV.sl h4097)]) := by kernel_rfl
theorem X_ref01_Table_1_0_eq (R : Orc) (k : Nat) (w : Bool) (n : Nat) (x3 : Int) (x5 : Int) (x7 : Int) (h4096_0 : List FV) (h4096_1 : List FV) (h4096_2 : List FV) (h4097 : List FV) : K_ref01_Table_1 R k w n (.exit 4) (X_ref01_Table_1_0 x3 x5 x7 h4096_0 h4096_1 h4096_2 h4097) = L_ref01_Table_2_0 R k w n x3 x5 (IntKind.wrap .i64 (x7 + 1)) h4096_0 h4096_1 h4096_2 h4097 := by kernel_rfl
theorem L_ref01_Table_3_1_eq (R : Orc) (k : Nat) (w : Bool) (n : Nat) (x3 : Int) (x5 : Int) (h4096_0 : List FV) (h4096_1 : List FV) (h4096_2 : List FV) (h4097 : List FV) : L_ref01_Table_3_1 R k w (n + 1) x3 x5 h4096_0 h4096_1 h4096_2 h4097 = ifB (decide (x5 < x3))
  (when (decide (0 ≤ x3) && (decide (x3 ≤ x3) && (decide (1 * x3 ≤ roomy) && decide (x3 ≤ roomy)))) (when ((decide (0 ≤ x5)) && (decide (x5 < (List.length (List.replicate (Int.toNat x3) (FV.bool false)) : Int)))) (when (Nat.blt (Int.toNat x5) (List.length (List.replicate (Int.toNat x3) (FV.bool false)))) (onL (L_ref01_Table_2_1 R k w k x3 x5 0 h4096_0 h4096_1 h4096_2 h4097 (List.set (List.replicate (Int.toNat x3) (FV.bool false)) (Int.toNat x5) (FV.bool true))) (K_ref01_Table_2 R k w n)))))
  (some ((.exit 0), X_ref01_Table_3_1 h4097)) := by kernel_rfl
theorem L_ref01_Table_2_1_eq (R : Orc) (k : Nat) (w : Bool) (n : Nat) (x3 : Int) (x5 : Int) (x7 : Int) (h4096_0 : List FV) (h4096_1 : List FV) (h4096_2 : List FV) (h4097 : List FV) (h4098 : List FV) : L_ref01_Table_2_1 R k w (n + 1) x3 x5 x7 h4096_0 h4096_1 h4096_2 h4097 h4098 = ifB (decide (x7 < x3))
  (onL (L_ref01_Table_1_1 R k w k x3 x5 x7 0 h4096_0 h4096_1 h4096_2 h4097 h4098) (K_ref01_Table_1 R k w n))
  (some ((.exit 2), X_ref01_Table_2_1 x3 x5 h4096_0 h4096_1 h4096_2 h4097 h4098)) := by kernel_rfl
theorem X_ref01_Table_3_1_eq (R : Orc) (k : Nat) (w : Bool) (h4096 : List FV) : K_ref01_Table_3 R k w (.exit 0) (X_ref01_Table_3_1 h4096) = some ([.fz (FV.sl h4096)], []) := by kernel_rfl
theorem L_ref01_Table_1_1_eq (R : Orc) (k : Nat) (w : Bool) (n : Nat) (x3 : Int) (x5 : Int) (x7 : Int) (x8 : Int) (h4096_0 : List FV) (h4096_1 : List FV) (h4096_2 : List FV) (h4097 : List FV) (h4098 : List FV) : L_ref01_Table_1_1 R k w (n + 1) x3 x5 x7 x8 h4096_0 h4096_1 h4096_2 h4097 h4098 = ifB (decide (x8 < (List.length h4096_1 : Int)))
  (when ((decide (0 ≤ x8)) && (decide (x8 < (List.length h4096_1 : Int)))) (when (FV.fits 2 true (List.getD h4096_1 (Int.toNat x8) FV.nilp)) (when (FV.isAg 2 (List.getD h4096_1 (Int.toNat x8) FV.nilp)) (when (FV.isInt .i64 (FV.cell (List.getD h4096_1 (Int.toNat x8) FV.nilp) 0)) (when ((decide (0 ≤ (FV.toInt (FV.cell (List.getD h4096_1 (Int.toNat x8) FV.nilp) 0)))) && (decide ((FV.toInt (FV.cell (List.getD h4096_1 (Int.toNat x8) FV.nilp) 0)) < (List.length h4098 : Int)))) (when (Nat.blt (Int.toNat (FV.toInt (FV.cell (List.getD h4096_1 (Int.toNat x8) FV.nilp) 0))) (List.length h4098)) (when (FV.isBool (List.getD h4098 (Int.toNat (FV.toInt (FV.cell (List.getD h4096_1 (Int.toNat x8) FV.nilp) 0))) FV.nilp)) (ifB (FV.toBool (List.getD h4098 (Int.toNat (FV.toInt (FV.cell (List.getD h4096_1 (Int.toNat x8) FV.nilp) 0))) FV.nilp))
   (when ((decide (0 ≤ x8)) && (decide (x8 < (List.length h4096_1 : Int)))) (when (FV.fits 2 true (List.getD h4096_1 (Int.toNat x8) FV.nilp)) (when (FV.isAg 2 (List.getD h4096_1 (Int.toNat x8) FV.nilp)) (when (FV.isInt .i64 (FV.cell (List.getD h4096_1 (Int.toNat x8) FV.nilp) 1)) (when ((decide (0 ≤ (FV.toInt (FV.cell (List.getD h4096_1 (Int.toNat x8) FV.nilp) 1)))) && (decide ((FV.toInt (FV.cell (List.getD h4096_1 (Int.toNat x8) FV.nilp) 1)) < (List.length h4098 : Int)))) (when (Nat.blt (Int.toNat (FV.toInt (FV.cell (List.getD h4096_1 (Int.toNat x8) FV.nilp) 1))) (List.length h4098)) (L_ref01_Table_1_1 R k w n x3 x5 x7 (IntKind.wrap .i64 (x8 + 1)) h4096_0 h4096_1 h4096_2 h4097 (List.set h4098 (Int.toNat (FV.toInt (FV.cell (List.getD h4096_1 (Int.toNat x8) FV.nilp) 1))) (FV.bool true)))))))))
   (L_ref01_Table_1_1 R k w n x3 x5 x7 (IntKind.wrap .i64 (x8 + 1)) h4096_0 h4096_1 h4096_2 h4097 h4098)))))))))
  (some ((.exit 4), X_ref01_Table_1_1 x3 x5 x7 h4096_0 h4096_1 h4096_2 h4097 h4098)) := by kernel_rfl
theorem X_ref01_Table_2_1_eq (R : Orc) (k : Nat) (w : Bool) (n : Nat) (x3 : Int) (x5 : Int) (h4096_0 : List FV) (h4096_1 : List FV) (h4096_2 : List FV) (h4097 : List FV) (h4098 : List FV) : K_ref01_Table_2 R k w n (.exit 2) (X_ref01_Table_2_1 x3 x5 h4096_0 h4096_1 h4096_2 h4097 h4098) = when (decide ((List.length h4097 + List.length [(FV.sl h4098)]) * 24 ≤ roomy) && decide (List.length h4097 + List.length [(FV.sl h4098)] ≤ roomy)) (L_ref01_Table_3_1 R k w n x3 (IntKind.wrap .i64 (x5 + 1)) h4096_0 h4096_1 h4096_2 (h4097 ++ [(FV.sl h4098)])) := by kernel_rfl
theorem X_ref01_Table_1_1_eq (R : Orc) (k : Nat) (w : Bool) (n : Nat) (x3 : Int) (x5 : Int) (x7 : Int) (h4096_0 : List FV) (h4096_1 : List FV) (h4096_2 : List FV) (h4097 : List FV) (h4098 : List FV) : K_ref01_Table_1 R k w n (.exit 4) (X_ref01_Table_1_1 x3 x5 x7 h4096_0 h4096_1 h4096_2 h4097 h4098) = L_ref01_Table_2_1 R k w n x3 x5 (IntKind.wrap .i64 (x7 + 1)) h4096_0 h4096_1 h4096_2 h4097 h4098 := by kernel_rfl
/-! keyhole/keyholeref09.Size -/
def A_ref09_Size_b1 : ACode := .seq (.seq (.region [⟨(some 14), .mov (.t 7), none, some (.int .i64)⟩,
   ⟨(some 15), .fadr 6 (.t 3), none, none⟩,
   ⟨(some 16), .load 1 false (.t 15), none, none⟩,
   ⟨(some 17), .len (.sl 8 true) (.t 16), none, some (.int .i64)⟩,
   ⟨(some 18), .binI .lss .i64 (.t 14) (.t 17), none, some .bool⟩])
  (.cond (.t 18) (.skip)
   (.exit 0)))
 (.seq (.block 1 (.region [⟨(some 21), .fadr 6 (.t 3), none, none⟩,
    ⟨(some 22), .load 1 false (.t 21), none, none⟩,
    ⟨(some 23), .mov (.t 7), none, some (.int .i64)⟩,
    ⟨(some 24), .iadr (.sl 8 true) (.t 22) (.t 23), none, none⟩,
    ⟨(some 25), .load 8 true (.t 24), none, none⟩,
    ⟨(some 26), .mov (.t 1), none, some (.int .i64)⟩,
    ⟨(some 27), .mov (.t 2), none, some (.int .i64)⟩,
    ⟨(some 28), .call N_ref09_Size [((.t 25), .fz), ((.t 26), .fz), ((.t 27), .fz)] [.fz], none, some (.int .i64)⟩,
    ⟨(some 1), .mov (.t 28), none, some (.int .i64)⟩]))
  (.region [⟨(some 19), .mov (.t 7), none, some (.int .i64)⟩,
   ⟨(some 20), .binI .add .i64 (.t 19) (.c (.fz (.int .i64 1))), none, some (.int .i64)⟩,
   ⟨(some 7), .mov (.t 20), none, some (.int .i64)⟩]))
def A_ref09_Size_s1 : ACode := .seq (.region [⟨(some 29), .mov (.t 1), none, some (.int .i64)⟩,
  ⟨(some 6), .mov (.t 29), none, some (.int .i64)⟩])
 (.ret)
def A_ref09_Size : AFunc := ⟨3, [(.tmp 6, .fz)], .seq (.region [⟨(some 3), .box 8 true (.t 0), none, none⟩,
  ⟨(some 6), .mov (.c (.fz (.int .i64 0))), none, some (.int .i64)⟩])
 (.seq (.seq (.region [⟨(some 8), .mov (.t 1), none, some (.int .i64)⟩,
    ⟨(some 9), .mov (.t 2), none, some (.int .i64)⟩,
    ⟨(some 10), .binI .geq .i64 (.t 8) (.t 9), none, some .bool⟩])
   (.cond (.t 10) (.seq (.region [⟨(some 11), .mov (.t 1), none, some (.int .i64)⟩,
      ⟨(some 6), .mov (.t 11), none, some (.int .i64)⟩])
     (.ret))
    (.skip)))
  (.seq (.region [⟨(some 12), .mov (.t 1), none, some (.int .i64)⟩,
    ⟨(some 13), .binI .add .i64 (.t 12) (.c (.fz (.int .i64 1))), none, some (.int .i64)⟩,
    ⟨(some 1), .mov (.t 13), none, some (.int .i64)⟩])
   (.seq (.seq (.region [⟨(some 7), .mov (.c (.fz (.int .i64 0))), none, some (.int .i64)⟩])
     (.block 0 (.loop [1, 2, 3, 7] [1] A_ref09_Size_b1)))
    A_ref09_Size_s1)))⟩
def K_ref09_Size_1 (R : Orc) (k : Nat) (w : Bool) : AExit → St → Option Ans := (kBlk 0 (kSeq R k w [] A_ref09_Size_s1 (kFin R [(.tmp 6, .fz)] [])))
def L_ref09_Size_1_0 (R : Orc) (k : Nat) (w : Bool) (n : Nat) (x1 : Int) (x2 : Int) (x7 : Int) (h4096_0 : Int) (h4096_1 : Int) (h4096_2 : Int) (h4096_3 : Int) (h4096_4 : Int) (h4096_5 : ByteArray) (h4096_6 : List FV) (h4096_7 : List FV) := loopL R k w [] [1, 2, 3, 7] [1] A_ref09_Size_b1 n ⟨[(1, .fz (FV.int .i64 x1)), (2, .fz (FV.int .i64 x2)), (3, .ptr 4096 0 0), (7, .fz (FV.int .i64 x7))], [(4095, .dead), (4096, .var 8 true (.fz (FV.ag [(FV.int .i64 h4096_0), (FV.int .i64 h4096_1), (FV.int .i64 h4096_2), (FV.int .i64 h4096_3), (FV.int .i64 h4096_4), (FV.str h4096_5), (FV.sl h4096_6), (FV.sl h4096_7)])))]⟩
def X_ref09_Size_1_0 (x1 : Int) : St := ⟨[(1, .fz (FV.int .i64 x1))], [(4095, .dead)]⟩
theorem E_ref09_Size (R : Orc) (k : Nat) (w : Bool) (a0_0 : Int) (a0_1 : Int) (a0_2 : Int) (a0_3_0 : Int) (a0_3_1 : Int) (a0_4 : ByteArray) (a0_5 : List FV) (a0_6 : List FV) (a1 : Int) (a2 : Int) : callL R k w A_ref09_Size [.fz (FV.ag [(FV.int .i64 a0_0), (FV.int .i64 a0_1), (FV.int .i64 a0_2), (FV.int .i64 a0_3_0), (FV.int .i64 a0_3_1), (FV.str a0_4), (FV.sl a0_5), (FV.sl a0_6)]), .fz (FV.int .i64 a1), .fz (FV.int .i64 a2)] = ifB (decide (a1 ≥ a2))
  (some ([.fz (FV.int .i64 a1)], []))
  (onL (L_ref09_Size_1_0 R k w k (IntKind.wrap .i64 (a1 + 1)) a2 0 a0_0 a0_1 a0_2 a0_3_0 a0_3_1 a0_4 a0_5 a0_6) (K_ref09_Size_1 R k w)) := by kernel_rfl
theorem L_ref09_Size_1_0_eq (R : Orc) (k : Nat) (w : Bool) (n : Nat) (x1 : Int) (x2 : Int) (x7 : Int) (h4096_0 : Int) (h4096_1 : Int) (h4096_2 : Int) (h4096_3 : Int) (h4096_4 : Int) (h4096_5 : ByteArray) (h4096_6 : List FV) (h4096_7 : List FV) : L_ref09_Size_1_0 R k w (n + 1) x1 x2 x7 h4096_0 h4096_1 h4096_2 h4096_3 h4096_4 h4096_5 h4096_6 h4096_7 = ifB (decide (x7 < (List.length h4096_6 : Int)))
  (when ((decide (0 ≤ x7)) && (decide (x7 < (List.length h4096_6 : Int)))) (when (FV.fits 8 true (List.getD h4096_6 (Int.toNat x7) FV.nilp)) (onR (R N_ref09_Size [.fz (List.getD h4096_6 (Int.toNat x7) FV.nilp), .fz (FV.int .i64 x1), .fz (FV.int .i64 x2)]) fun r0 => when (List.isEmpty r0.2 && allF [.fz] r0.1) (when (FV.isInt .i64 (TV.toF (List.getD r0.1 0 TV.em))) (L_ref09_Size_1_0 R k w n (FV.toInt (TV.toF (List.getD r0.1 0 TV.em))) x2 (IntKind.wrap .i64 (x7 + 1)) h4096_0 h4096_1 h4096_2 h4096_3 h4096_4 h4096_5 h4096_6 h4096_7)))))
  (some ((.exit 0), X_ref09_Size_1_0 x1)) := by kernel_rfl
theorem X_ref09_Size_1_0_eq (R : Orc) (k : Nat) (w : Bool) (x1 : Int) : K_ref09_Size_1 R k w (.exit 0) (X_ref09_Size_1_0 x1) = some ([.fz (FV.int .i64 x1)], []) := by kernel_rfl
/-! keyhole/keyholeref09.Flat -/
def A_ref09_Flat_b1 : ACode := .seq (.seq (.region [⟨(some 8), .mov (.t 5), none, some (.int .i64)⟩,
   ⟨(some 9), .fadr 6 (.t 2), none, none⟩,
   ⟨(some 10), .load 1 false (.t 9), none, none⟩,
   ⟨(some 11), .len (.sl 8 true) (.t 10), none, some (.int .i64)⟩,
   ⟨(some 12), .binI .lss .i64 (.t 8) (.t 11), none, some .bool⟩])
  (.cond (.t 12) (.skip)
   (.exit 0)))
 (.seq (.block 1 (.seq (.region [⟨(some 15), .fadr 6 (.t 2), none, none⟩,
     ⟨(some 16), .load 1 false (.t 15), none, none⟩,
     ⟨(some 17), .mov (.t 5), none, some (.int .i64)⟩,
     ⟨(some 18), .iadr (.sl 8 true) (.t 16) (.t 17), none, none⟩,
     ⟨(some 19), .load 8 true (.t 18), none, none⟩,
     ⟨(some 20), .mov (.t 1), none, some (.int .i64)⟩,
     ⟨(some 21), .binI .sub .i64 (.t 20) (.c (.fz (.int .i64 1))), none, some (.int .i64)⟩,
     ⟨(some 22), .call N_ref09_Flat [((.t 19), .fz), ((.t 21), .fz)] [.fz], none, some .bool⟩,
     ⟨(some 23), .notB (.t 22), none, some .bool⟩])
    (.cond (.t 23) (.seq (.region [⟨(some 4), .mov (.c (.fz (.bool false))), none, some .bool⟩])
      (.ret))
     (.skip))))
  (.region [⟨(some 13), .mov (.t 5), none, some (.int .i64)⟩,
   ⟨(some 14), .binI .add .i64 (.t 13) (.c (.fz (.int .i64 1))), none, some (.int .i64)⟩,
   ⟨(some 5), .mov (.t 14), none, some (.int .i64)⟩]))
def A_ref09_Flat_s1 : ACode := .seq (.region [⟨(some 4), .mov (.c (.fz (.bool true))), none, some .bool⟩])
 (.ret)
def A_ref09_Flat : AFunc := ⟨2, [(.tmp 4, .fz)], .seq (.region [⟨(some 2), .box 8 true (.t 0), none, none⟩,
  ⟨(some 4), .mov (.c (.fz (.bool false))), none, some .bool⟩])
 (.seq (.seq (.region [⟨(some 6), .mov (.t 1), none, some (.int .i64)⟩,
    ⟨(some 7), .binI .lss .i64 (.t 6) (.c (.fz (.int .i64 0))), none, some .bool⟩])
   (.cond (.t 7) (.seq (.region [⟨(some 4), .mov (.c (.fz (.bool false))), none, some .bool⟩])
     (.ret))
    (.skip)))
  (.seq (.seq (.region [⟨(some 5), .mov (.c (.fz (.int .i64 0))), none, some (.int .i64)⟩])
    (.block 0 (.loop [1, 2, 5] [4] A_ref09_Flat_b1)))
   A_ref09_Flat_s1))⟩
def K_ref09_Flat_1 (R : Orc) (k : Nat) (w : Bool) : AExit → St → Option Ans := (kBlk 0 (kSeq R k w [] A_ref09_Flat_s1 (kFin R [(.tmp 4, .fz)] [])))
def L_ref09_Flat_1_0 (R : Orc) (k : Nat) (w : Bool) (n : Nat) (x1 : Int) (x5 : Int) (h4096_0 : Int) (h4096_1 : Int) (h4096_2 : Int) (h4096_3 : Int) (h4096_4 : Int) (h4096_5 : ByteArray) (h4096_6 : List FV) (h4096_7 : List FV) := loopL R k w [] [1, 2, 5] [4] A_ref09_Flat_b1 n ⟨[(1, .fz (FV.int .i64 x1)), (2, .ptr 4096 0 0), (5, .fz (FV.int .i64 x5))], [(4095, .dead), (4096, .var 8 true (.fz (FV.ag [(FV.int .i64 h4096_0), (FV.int .i64 h4096_1), (FV.int .i64 h4096_2), (FV.int .i64 h4096_3), (FV.int .i64 h4096_4), (FV.str h4096_5), (FV.sl h4096_6), (FV.sl h4096_7)])))]⟩
def X_ref09_Flat_1_0 (x4 : Bool) : St := ⟨[(4, .fz (FV.bool x4))], [(4095, .dead)]⟩
def X_ref09_Flat_1_1 : St := ⟨[], [(4095, .dead)]⟩
theorem E_ref09_Flat (R : Orc) (k : Nat) (w : Bool) (a0_0 : Int) (a0_1 : Int) (a0_2 : Int) (a0_3_0 : Int) (a0_3_1 : Int) (a0_4 : ByteArray) (a0_5 : List FV) (a0_6 : List FV) (a1 : Int) : callL R k w A_ref09_Flat [.fz (FV.ag [(FV.int .i64 a0_0), (FV.int .i64 a0_1), (FV.int .i64 a0_2), (FV.int .i64 a0_3_0), (FV.int .i64 a0_3_1), (FV.str a0_4), (FV.sl a0_5), (FV.sl a0_6)]), .fz (FV.int .i64 a1)] = ifB (decide (a1 < 0))
  (some ([.fz (FV.bool false)], []))
  (onL (L_ref09_Flat_1_0 R k w k a1 0 a0_0 a0_1 a0_2 a0_3_0 a0_3_1 a0_4 a0_5 a0_6) (K_ref09_Flat_1 R k w)) := by kernel_rfl
theorem L_ref09_Flat_1_0_eq (R : Orc) (k : Nat) (w : Bool) (n : Nat) (x1 : Int) (x5 : Int) (h4096_0 : Int) (h4096_1 : Int) (h4096_2 : Int) (h4096_3 : Int) (h4096_4 : Int) (h4096_5 : ByteArray) (h4096_6 : List FV) (h4096_7 : List FV) : L_ref09_Flat_1_0 R k w (n + 1) x1 x5 h4096_0 h4096_1 h4096_2 h4096_3 h4096_4 h4096_5 h4096_6 h4096_7 = ifB (decide (x5 < (List.length h4096_6 : Int)))
  (when ((decide (0 ≤ x5)) && (decide (x5 < (List.length h4096_6 : Int)))) (when (FV.fits 8 true (List.getD h4096_6 (Int.toNat x5) FV.nilp)) (onR (R N_ref09_Flat [.fz (List.getD h4096_6 (Int.toNat x5) FV.nilp), .fz (FV.int .i64 (IntKind.wrap .i64 (x1 - 1)))]) fun r0 => when (List.isEmpty r0.2 && allF [.fz] r0.1) (when (FV.isBool (TV.toF (List.getD r0.1 0 TV.em))) (ifB (!(FV.toBool (TV.toF (List.getD r0.1 0 TV.em))))
   (some (.ret, X_ref09_Flat_1_0 false))
   (L_ref09_Flat_1_0 R k w n x1 (IntKind.wrap .i64 (x5 + 1)) h4096_0 h4096_1 h4096_2 h4096_3 h4096_4 h4096_5 h4096_6 h4096_7))))))
  (some ((.exit 0), X_ref09_Flat_1_1)) := by kernel_rfl
theorem X_ref09_Flat_1_0_eq (R : Orc) (k : Nat) (w : Bool) (x4 : Bool) : K_ref09_Flat_1 R k w .ret (X_ref09_Flat_1_0 x4) = some ([.fz (FV.bool x4)], []) := by kernel_rfl
theorem X_ref09_Flat_1_1_eq (R : Orc) (k : Nat) (w : Bool) : K_ref09_Flat_1 R k w (.exit 0) (X_ref09_Flat_1_1) = some ([.fz (FV.bool true)], []) := by kernel_rfl
/-! keyhole/keyholeref09.Labels -/
def A_ref09_Labels_b1 : ACode := .seq (.seq (.region [⟨(some 16), .mov (.t 5), none, some (.int .i64)⟩,
   ⟨(some 17), .fadr 6 (.t 3), none, none⟩,
   ⟨(some 18), .load 1 false (.t 17), none, none⟩,
   ⟨(some 19), .len (.sl 8 true) (.t 18), none, some (.int .i64)⟩,
   ⟨(some 20), .binI .lss .i64 (.t 16) (.t 19), none, some .bool⟩])
  (.cond (.t 20) (.skip)
   (.exit 0)))
 (.seq (.block 1 (.seq (.region [⟨(some 23), .mov (.t 0), none, none⟩,
     ⟨(some 24), .fadr 6 (.t 3), none, none⟩,
     ⟨(some 25), .load 1 false (.t 24), none, none⟩,
     ⟨(some 26), .mov (.t 5), none, some (.int .i64)⟩,
     ⟨(some 27), .iadr (.sl 8 true) (.t 25) (.t 26), none, none⟩,
     ⟨(some 28), .load 8 true (.t 27), none, none⟩,
     ⟨(some 29), .call N_ref09_Labels [((.t 23), .fz), ((.t 28), .fz)] [.fz], none, some .bool⟩,
     ⟨(some 30), .notB (.t 29), none, some .bool⟩])
    (.cond (.t 30) (.seq (.region [⟨(some 4), .mov (.c (.fz (.bool false))), none, some .bool⟩])
      (.ret))
     (.skip))))
  (.region [⟨(some 21), .mov (.t 5), none, some (.int .i64)⟩,
   ⟨(some 22), .binI .add .i64 (.t 21) (.c (.fz (.int .i64 1))), none, some (.int .i64)⟩,
   ⟨(some 5), .mov (.t 22), none, some (.int .i64)⟩]))
def A_ref09_Labels_s1 : ACode := .seq (.region [⟨(some 4), .mov (.c (.fz (.bool true))), none, some .bool⟩])
 (.ret)
def A_ref09_Labels_j2 : ACode := .seq (.seq (.region [⟨(some 5), .mov (.c (.fz (.int .i64 0))), none, some (.int .i64)⟩])
  (.block 0 (.loop [0, 3, 5] [4] A_ref09_Labels_b1)))
 A_ref09_Labels_s1
def A_ref09_Labels : AFunc := ⟨2, [(.tmp 4, .fz)], .seq (.region [⟨(some 3), .box 8 true (.t 1), none, none⟩,
  ⟨(some 4), .mov (.c (.fz (.bool false))), none, some .bool⟩])
 (.seq (.seq (.region [⟨(some 6), .fadr 0 (.t 3), none, none⟩,
    ⟨(some 7), .load 1 false (.t 6), none, some (.int .i64)⟩,
    ⟨(some 8), .binI .lss .i64 (.t 7) (.c (.fz (.int .i64 0))), none, some .bool⟩,
    ⟨(some 9), .mov (.t 8), none, some .bool⟩,
    ⟨(some 10), .fadr 0 (.t 3), (some (9, false)), none⟩,
    ⟨(some 11), .load 1 false (.t 10), (some (9, false)), some (.int .i64)⟩,
    ⟨(some 12), .mov (.t 0), (some (9, false)), none⟩,
    ⟨(some 13), .len (.sl 1 false) (.t 12), (some (9, false)), some (.int .i64)⟩,
    ⟨(some 14), .binI .geq .i64 (.t 11) (.t 13), (some (9, false)), some .bool⟩,
    ⟨(some 15), .pick (.t 9) (.c (.fz (.bool true))) (.t 14), none, some .bool⟩])
   (.cond (.t 15) (.seq (.region [⟨(some 4), .mov (.c (.fz (.bool false))), none, some .bool⟩])
     (.ret))
    (.skip)))
  (.trim [0, 3] A_ref09_Labels_j2))⟩
def J_ref09_Labels_2_0 (R : Orc) (k : Nat) (w : Bool) (x0 : List FV) (h4096_0 : Int) (h4096_1 : Int) (h4096_2 : Int) (h4096_3 : Int) (h4096_4 : Int) (h4096_5 : ByteArray) (h4096_6 : List FV) (h4096_7 : List FV) := execL R k w [] A_ref09_Labels_j2 Ans ⟨[(0, .fz (FV.sl x0)), (3, .ptr 4096 0 0)], [(4095, .dead), (4096, .var 8 true (.fz (FV.ag [(FV.int .i64 h4096_0), (FV.int .i64 h4096_1), (FV.int .i64 h4096_2), (FV.int .i64 h4096_3), (FV.int .i64 h4096_4), (FV.str h4096_5), (FV.sl h4096_6), (FV.sl h4096_7)])))]⟩ (kFin R [(.tmp 4, .fz)] [])
def K_ref09_Labels_1 (R : Orc) (k : Nat) (w : Bool) : AExit → St → Option Ans := (kBlk 0 (kSeq R k w [] A_ref09_Labels_s1 (kFin R [(.tmp 4, .fz)] [])))
def L_ref09_Labels_1_0 (R : Orc) (k : Nat) (w : Bool) (n : Nat) (x0 : List FV) (x5 : Int) (h4096_0 : Int) (h4096_1 : Int) (h4096_2 : Int) (h4096_3 : Int) (h4096_4 : Int) (h4096_5 : ByteArray) (h4096_6 : List FV) (h4096_7 : List FV) := loopL R k w [] [0, 3, 5] [4] A_ref09_Labels_b1 n ⟨[(0, .fz (FV.sl x0)), (3, .ptr 4096 0 0), (5, .fz (FV.int .i64 x5))], [(4095, .dead), (4096, .var 8 true (.fz (FV.ag [(FV.int .i64 h4096_0), (FV.int .i64 h4096_1), (FV.int .i64 h4096_2), (FV.int .i64 h4096_3), (FV.int .i64 h4096_4), (FV.str h4096_5), (FV.sl h4096_6), (FV.sl h4096_7)])))]⟩
def X_ref09_Labels_1_0 (x4 : Bool) : St := ⟨[(4, .fz (FV.bool x4))], [(4095, .dead)]⟩
def X_ref09_Labels_1_1 : St := ⟨[], [(4095, .dead)]⟩
theorem E_ref09_Labels (R : Orc) (k : Nat) (w : Bool) (a0 : List FV) (a1_0 : Int) (a1_1 : Int) (a1_2 : Int) (a1_3_0 : Int) (a1_3_1 : Int) (a1_4 : ByteArray) (a1_5 : List FV) (a1_6 : List FV) : callL R k w A_ref09_Labels [.fz (FV.sl a0), .fz (FV.ag [(FV.int .i64 a1_0), (FV.int .i64 a1_1), (FV.int .i64 a1_2), (FV.int .i64 a1_3_0), (FV.int .i64 a1_3_1), (FV.str a1_4), (FV.sl a1_5), (FV.sl a1_6)])] = ifB (decide (a1_0 < 0))
  (some ([.fz (FV.bool false)], []))
  (ifB (decide (a1_0 ≥ (List.length a0 : Int)))
   (some ([.fz (FV.bool false)], []))
   (jump w (J_ref09_Labels_2_0 R k w a0 a1_0 a1_1 a1_2 a1_3_0 a1_3_1 a1_4 a1_5 a1_6))) := by kernel_rfl
theorem J_ref09_Labels_2_0_eq (R : Orc) (k : Nat) (w : Bool) (x0 : List FV) (h4096_0 : Int) (h4096_1 : Int) (h4096_2 : Int) (h4096_3 : Int) (h4096_4 : Int) (h4096_5 : ByteArray) (h4096_6 : List FV) (h4096_7 : List FV) : J_ref09_Labels_2_0 R k w x0 h4096_0 h4096_1 h4096_2 h4096_3 h4096_4 h4096_5 h4096_6 h4096_7 = onL (L_ref09_Labels_1_0 R k w k x0 0 h4096_0 h4096_1 h4096_2 h4096_3 h4096_4 h4096_5 h4096_6 h4096_7) (K_ref09_Labels_1 R k w) := by kernel_rfl
theorem L_ref09_Labels_1_0_eq (R : Orc) (k : Nat) (w : Bool) (n : Nat) (x0 : List FV) (x5 : Int) (h4096_0 : Int) (h4096_1 : Int) (h4096_2 : Int) (h4096_3 : Int) (h4096_4 : Int) (h4096_5 : ByteArray) (h4096_6 : List FV) (h4096_7 : List FV) : L_ref09_Labels_1_0 R k w (n + 1) x0 x5 h4096_0 h4096_1 h4096_2 h4096_3 h4096_4 h4096_5 h4096_6 h4096_7 = ifB (decide (x5 < (List.length h4096_6 : Int)))
  (when ((decide (0 ≤ x5)) && (decide (x5 < (List.length h4096_6 : Int)))) (when (FV.fits 8 true (List.getD h4096_6 (Int.toNat x5) FV.nilp)) (onR (R N_ref09_Labels [.fz (FV.sl x0), .fz (List.getD h4096_6 (Int.toNat x5) FV.nilp)]) fun r0 => when (List.isEmpty r0.2 && allF [.fz] r0.1) (when (FV.isBool (TV.toF (List.getD r0.1 0 TV.em))) (ifB (!(FV.toBool (TV.toF (List.getD r0.1 0 TV.em))))
   (some (.ret, X_ref09_Labels_1_0 false))
   (L_ref09_Labels_1_0 R k w n x0 (IntKind.wrap .i64 (x5 + 1)) h4096_0 h4096_1 h4096_2 h4096_3 h4096_4 h4096_5 h4096_6 h4096_7))))))
  (some ((.exit 0), X_ref09_Labels_1_1)) := by kernel_rfl
theorem X_ref09_Labels_1_0_eq (R : Orc) (k : Nat) (w : Bool) (x4 : Bool) : K_ref09_Labels_1 R k w .ret (X_ref09_Labels_1_0 x4) = some ([.fz (FV.bool x4)], []) := by kernel_rfl
theorem X_ref09_Labels_1_1_eq (R : Orc) (k : Nat) (w : Bool) : K_ref09_Labels_1 R k w (.exit 0) (X_ref09_Labels_1_1) = some ([.fz (FV.bool true)], []) := by kernel_rfl
/-! keyhole/keyholeref09.right -/
def A_ref09_right_b1 : ACode := .seq (.seq (.region [⟨(some 12), .mov (.t 5), none, some (.int .i64)⟩,
   ⟨(some 13), .fadr 6 (.t 3), none, none⟩,
   ⟨(some 14), .load 1 false (.t 13), none, none⟩,
   ⟨(some 15), .len (.sl 8 true) (.t 14), none, some (.int .i64)⟩,
   ⟨(some 16), .binI .lss .i64 (.t 12) (.t 15), none, some .bool⟩])
  (.cond (.t 16) (.skip)
   (.exit 0)))
 (.seq (.block 1 (.seq (.region [⟨(some 19), .mov (.t 0), none, none⟩,
     ⟨(some 20), .fadr 6 (.t 3), none, none⟩,
     ⟨(some 21), .load 1 false (.t 20), none, none⟩,
     ⟨(some 22), .mov (.t 5), none, some (.int .i64)⟩,
     ⟨(some 23), .iadr (.sl 8 true) (.t 21) (.t 22), none, none⟩,
     ⟨(some 24), .load 8 true (.t 23), none, none⟩,
     ⟨(some 25), .call N_ref09_right [((.t 19), .fz), ((.t 24), .fz)] [.fz], none, some .bool⟩,
     ⟨(some 26), .notB (.t 25), none, some .bool⟩])
    (.cond (.t 26) (.seq (.region [⟨(some 4), .mov (.c (.fz (.bool false))), none, some .bool⟩])
      (.ret))
     (.skip))))
  (.region [⟨(some 17), .mov (.t 5), none, some (.int .i64)⟩,
   ⟨(some 18), .binI .add .i64 (.t 17) (.c (.fz (.int .i64 1))), none, some (.int .i64)⟩,
   ⟨(some 5), .mov (.t 18), none, some (.int .i64)⟩]))
def A_ref09_right_s1 : ACode := .seq (.region [⟨(some 4), .mov (.c (.fz (.bool true))), none, some .bool⟩])
 (.ret)
def A_ref09_right : AFunc := ⟨2, [(.tmp 4, .fz)], .seq (.region [⟨(some 3), .box 8 true (.t 1), none, none⟩,
  ⟨(some 4), .mov (.c (.fz (.bool false))), none, some .bool⟩])
 (.seq (.seq (.draws [⟨⟨(some 6), .fadr 1 (.t 3), none, none⟩, []⟩,
    ⟨⟨(some 7), .load 1 false (.t 6), none, some (.int .i64)⟩, [0]⟩,
    ⟨⟨(some 8), .mov (.t 0), none, none⟩, []⟩,
    ⟨⟨(some 9), .load 8 true (.t 3), none, none⟩, []⟩,
    ⟨⟨(some 10), .call N_ref09_Deep [((.t 8), .fz), ((.t 9), .fz)] [.fz], none, some (.int .i64)⟩, [2, 3]⟩,
    ⟨⟨(some 11), .binI .neq .i64 (.t 7) (.t 10), none, some .bool⟩, [1, 4]⟩])
   (.cond (.t 11) (.seq (.region [⟨(some 4), .mov (.c (.fz (.bool false))), none, some .bool⟩])
     (.ret))
    (.skip)))
  (.seq (.seq (.region [⟨(some 5), .mov (.c (.fz (.int .i64 0))), none, some (.int .i64)⟩])
    (.block 0 (.loop [0, 3, 5] [4] A_ref09_right_b1)))
   A_ref09_right_s1))⟩
def K_ref09_right_1 (R : Orc) (k : Nat) (w : Bool) : AExit → St → Option Ans := (kBlk 0 (kSeq R k w [] A_ref09_right_s1 (kFin R [(.tmp 4, .fz)] [])))
def L_ref09_right_1_0 (R : Orc) (k : Nat) (w : Bool) (n : Nat) (x0 : List FV) (x5 : Int) (h4096_0 : Int) (h4096_1 : Int) (h4096_2 : Int) (h4096_3 : Int) (h4096_4 : Int) (h4096_5 : ByteArray) (h4096_6 : List FV) (h4096_7 : List FV) := loopL R k w [] [0, 3, 5] [4] A_ref09_right_b1 n ⟨[(0, .fz (FV.sl x0)), (3, .ptr 4096 0 0), (5, .fz (FV.int .i64 x5))], [(4095, .dead), (4096, .var 8 true (.fz (FV.ag [(FV.int .i64 h4096_0), (FV.int .i64 h4096_1), (FV.int .i64 h4096_2), (FV.int .i64 h4096_3), (FV.int .i64 h4096_4), (FV.str h4096_5), (FV.sl h4096_6), (FV.sl h4096_7)])))]⟩
def X_ref09_right_1_0 (x4 : Bool) : St := ⟨[(4, .fz (FV.bool x4))], [(4095, .dead)]⟩
def X_ref09_right_1_1 : St := ⟨[], [(4095, .dead)]⟩
theorem E_ref09_right (R : Orc) (k : Nat) (w : Bool) (a0 : List FV) (a1_0 : Int) (a1_1 : Int) (a1_2 : Int) (a1_3_0 : Int) (a1_3_1 : Int) (a1_4 : ByteArray) (a1_5 : List FV) (a1_6 : List FV) : callL R k w A_ref09_right [.fz (FV.sl a0), .fz (FV.ag [(FV.int .i64 a1_0), (FV.int .i64 a1_1), (FV.int .i64 a1_2), (FV.int .i64 a1_3_0), (FV.int .i64 a1_3_1), (FV.str a1_4), (FV.sl a1_5), (FV.sl a1_6)])] = onR (R N_ref09_Deep [.fz (FV.sl a0), .fz (FV.ag [(FV.int .i64 a1_0), (FV.int .i64 a1_1), (FV.int .i64 a1_2), (FV.int .i64 a1_3_0), (FV.int .i64 a1_3_1), (FV.str a1_4), (FV.sl a1_5), (FV.sl a1_6)])]) fun r0 => when (List.isEmpty r0.2 && allF [.fz] r0.1) (when (FV.isInt .i64 (TV.toF (List.getD r0.1 0 TV.em))) (ifB (a1_1 != (FV.toInt (TV.toF (List.getD r0.1 0 TV.em))))
  (some ([.fz (FV.bool false)], []))
  (onL (L_ref09_right_1_0 R k w k a0 0 a1_0 a1_1 a1_2 a1_3_0 a1_3_1 a1_4 a1_5 a1_6) (K_ref09_right_1 R k w)))) := by kernel_rfl
theorem L_ref09_right_1_0_eq (R : Orc) (k : Nat) (w : Bool) (n : Nat) (x0 : List FV) (x5 : Int) (h4096_0 : Int) (h4096_1 : Int) (h4096_2 : Int) (h4096_3 : Int) (h4096_4 : Int) (h4096_5 : ByteArray) (h4096_6 : List FV) (h4096_7 : List FV) : L_ref09_right_1_0 R k w (n + 1) x0 x5 h4096_0 h4096_1 h4096_2 h4096_3 h4096_4 h4096_5 h4096_6 h4096_7 = ifB (decide (x5 < (List.length h4096_6 : Int)))
  (when ((decide (0 ≤ x5)) && (decide (x5 < (List.length h4096_6 : Int)))) (when (FV.fits 8 true (List.getD h4096_6 (Int.toNat x5) FV.nilp)) (onR (R N_ref09_right [.fz (FV.sl x0), .fz (List.getD h4096_6 (Int.toNat x5) FV.nilp)]) fun r1 => when (List.isEmpty r1.2 && allF [.fz] r1.1) (when (FV.isBool (TV.toF (List.getD r1.1 0 TV.em))) (ifB (!(FV.toBool (TV.toF (List.getD r1.1 0 TV.em))))
   (some (.ret, X_ref09_right_1_0 false))
   (L_ref09_right_1_0 R k w n x0 (IntKind.wrap .i64 (x5 + 1)) h4096_0 h4096_1 h4096_2 h4096_3 h4096_4 h4096_5 h4096_6 h4096_7))))))
  (some ((.exit 0), X_ref09_right_1_1)) := by kernel_rfl
theorem X_ref09_right_1_0_eq (R : Orc) (k : Nat) (w : Bool) (x4 : Bool) : K_ref09_right_1 R k w .ret (X_ref09_right_1_0 x4) = some ([.fz (FV.bool x4)], []) := by kernel_rfl
theorem X_ref09_right_1_1_eq (R : Orc) (k : Nat) (w : Bool) : K_ref09_right_1 R k w (.exit 0) (X_ref09_right_1_1) = some ([.fz (FV.bool true)], []) := by kernel_rfl
/-! keyhole/keyholeref09.shape -/
def A_ref09_shape_b1 : ACode := .seq (.seq (.region [⟨(some 36), .mov (.t 4), none, some (.int .i64)⟩,
   ⟨(some 37), .fadr 5 (.t 1), none, none⟩,
   ⟨(some 38), .load 1 false (.t 37), none, none⟩,
   ⟨(some 39), .len (.sl 1 false) (.t 38), none, some (.int .i64)⟩,
   ⟨(some 40), .binI .lss .i64 (.t 36) (.t 39), none, some .bool⟩])
  (.cond (.t 40) (.skip)
   (.exit 0)))
 (.seq (.block 1 (.region [⟨(some 43), .fadr 4 (.t 3), none, none⟩,
    ⟨(some 44), .load 1 false (.t 43), none, none⟩,
    ⟨(some 45), .build 6 [.fz (.int .i64 0), .fz (.int .i64 0), .fz (.int .i64 0), .fz (.str ⟨#[]⟩), .nils, .nils] [], none, none⟩,
    ⟨(some 46), .buildSl 6 true 1 (.ag [.int .i64 0, .int .i64 0, .int .i64 0, .str ⟨#[]⟩, .sl [], .sl []]) [(0, (.t 45))], none, none⟩,
    ⟨(some 47), .append 6 true 88 false (.t 44) (.t 46), none, none⟩,
    ⟨(some 48), .fadr 4 (.t 3), none, none⟩,
    ⟨none, .store 1 false (.t 48) (.t 47), none, none⟩]))
  (.region [⟨(some 41), .mov (.t 4), none, some (.int .i64)⟩,
   ⟨(some 42), .binI .add .i64 (.t 41) (.c (.fz (.int .i64 1))), none, some (.int .i64)⟩,
   ⟨(some 4), .mov (.t 42), none, some (.int .i64)⟩]))
def A_ref09_shape_b2 : ACode := .seq (.seq (.region [⟨(some 52), .mov (.t 5), none, some (.int .i64)⟩,
   ⟨(some 53), .fadr 4 (.t 1), none, none⟩,
   ⟨(some 54), .load 1 false (.t 53), none, none⟩,
   ⟨(some 55), .len (.sl 6 true) (.t 54), none, some (.int .i64)⟩,
   ⟨(some 56), .binI .lss .i64 (.t 52) (.t 55), none, some .bool⟩])
  (.cond (.t 56) (.skip)
   (.exit 2)))
 (.seq (.block 3 (.seq (.region [⟨(some 59), .fadr 4 (.t 1), none, none⟩,
     ⟨(some 60), .load 1 false (.t 59), none, none⟩,
     ⟨(some 61), .mov (.t 5), none, some (.int .i64)⟩,
     ⟨(some 62), .iadr (.sl 6 true) (.t 60) (.t 61), none, none⟩,
     ⟨(some 63), .load 6 true (.t 62), none, none⟩,
     ⟨(some 64), .call N_ref09_shape [((.t 63), .fz)] [.fz], none, some .bool⟩,
     ⟨(some 65), .notB (.t 64), none, some .bool⟩])
    (.cond (.t 65) (.seq (.region [⟨(some 2), .mov (.c (.fz (.bool false))), none, some .bool⟩])
      (.ret))
     (.skip))))
  (.region [⟨(some 57), .mov (.t 5), none, some (.int .i64)⟩,
   ⟨(some 58), .binI .add .i64 (.t 57) (.c (.fz (.int .i64 1))), none, some (.int .i64)⟩,
   ⟨(some 5), .mov (.t 58), none, some (.int .i64)⟩]))
def A_ref09_shape_s1 : ACode := .seq (.region [⟨(some 2), .mov (.c (.fz (.bool true))), none, some .bool⟩])
 (.ret)
def A_ref09_shape_s2 : ACode := .seq (.seq (.region [⟨(some 49), .load 6 true (.t 3), none, none⟩,
   ⟨(some 50), .call N_ref05_Is [((.t 49), .fz), ((.c (.fz (.int .i64 0))), .fz)] [.fz], none, some .bool⟩,
   ⟨(some 51), .notB (.t 50), none, some .bool⟩])
  (.cond (.t 51) (.seq (.region [⟨(some 2), .mov (.c (.fz (.bool false))), none, some .bool⟩])
    (.ret))
   (.skip)))
 (.seq (.seq (.region [⟨(some 5), .mov (.c (.fz (.int .i64 0))), none, some (.int .i64)⟩])
   (.block 2 (.loop [1, 5] [2] A_ref09_shape_b2)))
  A_ref09_shape_s1)
def A_ref09_shape_j3 : ACode := .seq (.seq (.region [⟨(some 4), .mov (.c (.fz (.int .i64 0))), none, some (.int .i64)⟩])
  (.block 0 (.loop [1, 3, 4] [1, 3] A_ref09_shape_b1)))
 A_ref09_shape_s2
def A_ref09_shape : AFunc := ⟨1, [(.tmp 2, .fz)], .seq (.region [⟨(some 1), .box 6 true (.t 0), none, none⟩,
  ⟨(some 2), .mov (.c (.fz (.bool false))), none, some .bool⟩])
 (.seq (.region [⟨(some 6), .load 6 true (.t 1), none, none⟩,
   ⟨(some 3), .alloc 6 true (.ag [.fz (.int .i64 0), .fz (.int .i64 0), .fz (.int .i64 0), .fz (.str ⟨#[]⟩), .nils, .nils]), none, none⟩,
   ⟨none, .store 6 true (.t 3) (.t 6), none, none⟩])
  (.seq (.region [⟨(some 7), .fadr 4 (.t 3), none, none⟩,
    ⟨none, .store 1 false (.t 7) (.c (.nils)), none, none⟩])
   (.seq (.seq (.region [⟨(some 8), .fadr 0 (.t 1), none, none⟩,
      ⟨(some 9), .load 1 false (.t 8), none, some (.int .i64)⟩,
      ⟨(some 10), .binI .eql .i64 (.t 9) (.c (.fz (.int .i64 6))), none, some .bool⟩,
      ⟨(some 11), .mov (.t 10), none, some .bool⟩,
      ⟨(some 12), .fadr 5 (.t 1), (some (11, true)), none⟩,
      ⟨(some 13), .load 1 false (.t 12), (some (11, true)), none⟩,
      ⟨(some 14), .len (.sl 1 false) (.t 13), (some (11, true)), some (.int .i64)⟩,
      ⟨(some 15), .fadr 4 (.t 1), (some (11, true)), none⟩,
      ⟨(some 16), .load 1 false (.t 15), (some (11, true)), none⟩,
      ⟨(some 17), .len (.sl 6 true) (.t 16), (some (11, true)), some (.int .i64)⟩,
      ⟨(some 18), .binI .neq .i64 (.t 14) (.t 17), (some (11, true)), some .bool⟩,
      ⟨(some 19), .pick (.t 11) (.t 18) (.c (.fz (.bool false))), none, some .bool⟩,
      ⟨(some 20), .mov (.t 19), none, some .bool⟩,
      ⟨(some 21), .fadr 0 (.t 1), (some (20, false)), none⟩,
      ⟨(some 22), .load 1 false (.t 21), (some (20, false)), some (.int .i64)⟩,
      ⟨(some 23), .binI .neq .i64 (.t 22) (.c (.fz (.int .i64 5))), (some (20, false)), some .bool⟩,
      ⟨(some 24), .mov (.t 23), (some (20, false)), some .bool⟩,
      ⟨(some 25), .fadr 0 (.t 1), (some (24, true)), none⟩,
      ⟨(some 26), .load 1 false (.t 25), (some (24, true)), some (.int .i64)⟩,
      ⟨(some 27), .binI .neq .i64 (.t 26) (.c (.fz (.int .i64 6))), (some (24, true)), some .bool⟩,
      ⟨(some 28), .pick (.t 24) (.t 27) (.c (.fz (.bool false))), (some (20, false)), some .bool⟩,
      ⟨(some 29), .mov (.t 28), (some (20, false)), some .bool⟩,
      ⟨(some 30), .fadr 4 (.t 1), (some (29, true)), none⟩,
      ⟨(some 31), .load 1 false (.t 30), (some (29, true)), none⟩,
      ⟨(some 32), .len (.sl 6 true) (.t 31), (some (29, true)), some (.int .i64)⟩,
      ⟨(some 33), .binI .gtr .i64 (.t 32) (.c (.fz (.int .i64 0))), (some (29, true)), some .bool⟩,
      ⟨(some 34), .pick (.t 29) (.t 33) (.c (.fz (.bool false))), (some (20, false)), some .bool⟩,
      ⟨(some 35), .pick (.t 20) (.c (.fz (.bool true))) (.t 34), none, some .bool⟩])
     (.cond (.t 35) (.seq (.region [⟨(some 2), .mov (.c (.fz (.bool false))), none, some .bool⟩])
       (.ret))
      (.skip)))
    (.trim [1, 3] A_ref09_shape_j3))))⟩
def J_ref09_shape_3_0 (R : Orc) (k : Nat) (w : Bool) (h4096_0 : Int) (h4096_1 : Int) (h4096_2 : Int) (h4096_3 : ByteArray) (h4096_4 : List FV) (h4096_5 : List FV) (h4097_0 : Int) (h4097_1 : Int) (h4097_2 : Int) (h4097_3 : ByteArray) (h4097_5 : List FV) := execL R k w [] A_ref09_shape_j3 Ans ⟨[(1, .ptr 4096 0 0), (3, .ptr 4097 0 0)], [(4095, .dead), (4096, .var 6 true (.fz (FV.ag [(FV.int .i64 h4096_0), (FV.int .i64 h4096_1), (FV.int .i64 h4096_2), (FV.str h4096_3), (FV.sl h4096_4), (FV.sl h4096_5)]))), (4097, .var 6 true (.ag [.fz (FV.int .i64 h4097_0), .fz (FV.int .i64 h4097_1), .fz (FV.int .i64 h4097_2), .fz (FV.str h4097_3), .nils, .fz (FV.sl h4097_5)]))]⟩ (kFin R [(.tmp 2, .fz)] [])
def K_ref09_shape_1 (R : Orc) (k : Nat) (w : Bool) : AExit → St → Option Ans := (kBlk 0 (kSeq R k w [] A_ref09_shape_s2 (kFin R [(.tmp 2, .fz)] [])))
def L_ref09_shape_1_0 (R : Orc) (k : Nat) (w : Bool) (n : Nat) (x4 : Int) (h4096_0 : Int) (h4096_1 : Int) (h4096_2 : Int) (h4096_3 : ByteArray) (h4096_4 : List FV) (h4096_5 : List FV) (h4097_0 : Int) (h4097_1 : Int) (h4097_2 : Int) (h4097_3 : ByteArray) (h4097_5 : List FV) := loopL R k w [] [1, 3, 4] [1, 3] A_ref09_shape_b1 n ⟨[(1, .ptr 4096 0 0), (3, .ptr 4097 0 0), (4, .fz (FV.int .i64 x4))], [(4095, .dead), (4096, .var 6 true (.fz (FV.ag [(FV.int .i64 h4096_0), (FV.int .i64 h4096_1), (FV.int .i64 h4096_2), (FV.str h4096_3), (FV.sl h4096_4), (FV.sl h4096_5)]))), (4097, .var 6 true (.ag [.fz (FV.int .i64 h4097_0), .fz (FV.int .i64 h4097_1), .fz (FV.int .i64 h4097_2), .fz (FV.str h4097_3), .nils, .fz (FV.sl h4097_5)]))]⟩
def L_ref09_shape_1_1 (R : Orc) (k : Nat) (w : Bool) (n : Nat) (x4 : Int) (h4096_0 : Int) (h4096_1 : Int) (h4096_2 : Int) (h4096_3 : ByteArray) (h4096_4 : List FV) (h4096_5 : List FV) (h4097_0 : Int) (h4097_1 : Int) (h4097_2 : Int) (h4097_3 : ByteArray) (h4097_5 : List FV) (h4098 : List FV) := loopL R k w [] [1, 3, 4] [1, 3] A_ref09_shape_b1 n ⟨[(1, .ptr 4096 0 0), (3, .ptr 4097 0 0), (4, .fz (FV.int .i64 x4))], [(4095, .dead), (4096, .var 6 true (.fz (FV.ag [(FV.int .i64 h4096_0), (FV.int .i64 h4096_1), (FV.int .i64 h4096_2), (FV.str h4096_3), (FV.sl h4096_4), (FV.sl h4096_5)]))), (4097, .var 6 true (.ag [.fz (FV.int .i64 h4097_0), .fz (FV.int .i64 h4097_1), .fz (FV.int .i64 h4097_2), .fz (FV.str h4097_3), .rw 4098, .fz (FV.sl h4097_5)])), (4098, .row 6 true h4098)]⟩
def X_ref09_shape_1_0 (h4096_0 : Int) (h4096_1 : Int) (h4096_2 : Int) (h4096_3 : ByteArray) (h4096_4 : List FV) (h4096_5 : List FV) (h4097_0 : Int) (h4097_1 : Int) (h4097_2 : Int) (h4097_3 : ByteArray) (h4097_5 : List FV) : St := ⟨[(1, .ptr 4096 0 0), (3, .ptr 4097 0 0)], [(4095, .dead), (4096, .var 6 true (.fz (FV.ag [(FV.int .i64 h4096_0), (FV.int .i64 h4096_1), (FV.int .i64 h4096_2), (FV.str h4096_3), (FV.sl h4096_4), (FV.sl h4096_5)]))), (4097, .var 6 true (.ag [.fz (FV.int .i64 h4097_0), .fz (FV.int .i64 h4097_1), .fz (FV.int .i64 h4097_2), .fz (FV.str h4097_3), .nils, .fz (FV.sl h4097_5)]))]⟩
def X_ref09_shape_1_1 (h4096_0 : Int) (h4096_1 : Int) (h4096_2 : Int) (h4096_3 : ByteArray) (h4096_4 : List FV) (h4096_5 : List FV) (h4097_0 : Int) (h4097_1 : Int) (h4097_2 : Int) (h4097_3 : ByteArray) (h4097_5 : List FV) (h4098 : List FV) : St := ⟨[(1, .ptr 4096 0 0), (3, .ptr 4097 0 0)], [(4095, .dead), (4096, .var 6 true (.fz (FV.ag [(FV.int .i64 h4096_0), (FV.int .i64 h4096_1), (FV.int .i64 h4096_2), (FV.str h4096_3), (FV.sl h4096_4), (FV.sl h4096_5)]))), (4097, .var 6 true (.ag [.fz (FV.int .i64 h4097_0), .fz (FV.int .i64 h4097_1), .fz (FV.int .i64 h4097_2), .fz (FV.str h4097_3), .rw 4098, .fz (FV.sl h4097_5)])), (4098, .row 6 true h4098)]⟩
def K_ref09_shape_2 (R : Orc) (k : Nat) (w : Bool) : AExit → St → Option Ans := (kBlk 2 (kSeq R k w [] A_ref09_shape_s1 (kFin R [(.tmp 2, .fz)] [])))
def L_ref09_shape_2_0 (R : Orc) (k : Nat) (w : Bool) (n : Nat) (x5 : Int) (h4096_0 : Int) (h4096_1 : Int) (h4096_2 : Int) (h4096_3 : ByteArray) (h4096_4 : List FV) (h4096_5 : List FV) := loopL R k w [] [1, 5] [2] A_ref09_shape_b2 n ⟨[(1, .ptr 4096 0 0), (5, .fz (FV.int .i64 x5))], [(4095, .dead), (4096, .var 6 true (.fz (FV.ag [(FV.int .i64 h4096_0), (FV.int .i64 h4096_1), (FV.int .i64 h4096_2), (FV.str h4096_3), (FV.sl h4096_4), (FV.sl h4096_5)])))]⟩
def X_ref09_shape_2_0 (x2 : Bool) : St := ⟨[(2, .fz (FV.bool x2))], [(4095, .dead)]⟩
def X_ref09_shape_2_1 : St := ⟨[], [(4095, .dead)]⟩
theorem E_ref09_shape (R : Orc) (k : Nat) (w : Bool) (a0_0 : Int) (a0_1_0 : Int) (a0_1_1 : Int) (a0_2 : ByteArray) (a0_3 : List FV) (a0_4 : List FV) : callL R k w A_ref09_shape [.fz (FV.ag [(FV.int .i64 a0_0), (FV.int .i64 a0_1_0), (FV.int .i64 a0_1_1), (FV.str a0_2), (FV.sl a0_3), (FV.sl a0_4)])] = ifB (a0_0 == 6)
  (ifB ((List.length a0_4 : Int) != (List.length a0_3 : Int))
   (some ([.fz (FV.bool false)], []))
   (ifB (a0_0 != 5)
    (ifB (a0_0 != 6)
     (ifB (decide ((List.length a0_3 : Int) > 0))
      (some ([.fz (FV.bool false)], []))
      (jump w (J_ref09_shape_3_0 R k w a0_0 a0_1_0 a0_1_1 a0_2 a0_3 a0_4 a0_0 a0_1_0 a0_1_1 a0_2 a0_4)))
     (jump w (J_ref09_shape_3_0 R k w a0_0 a0_1_0 a0_1_1 a0_2 a0_3 a0_4 a0_0 a0_1_0 a0_1_1 a0_2 a0_4)))
    (jump w (J_ref09_shape_3_0 R k w a0_0 a0_1_0 a0_1_1 a0_2 a0_3 a0_4 a0_0 a0_1_0 a0_1_1 a0_2 a0_4))))
  (ifB (a0_0 != 5)
   (ifB (a0_0 != 6)
    (ifB (decide ((List.length a0_3 : Int) > 0))
     (some ([.fz (FV.bool false)], []))
     (jump w (J_ref09_shape_3_0 R k w a0_0 a0_1_0 a0_1_1 a0_2 a0_3 a0_4 a0_0 a0_1_0 a0_1_1 a0_2 a0_4)))
    (jump w (J_ref09_shape_3_0 R k w a0_0 a0_1_0 a0_1_1 a0_2 a0_3 a0_4 a0_0 a0_1_0 a0_1_1 a0_2 a0_4)))
   (jump w (J_ref09_shape_3_0 R k w a0_0 a0_1_0 a0_1_1 a0_2 a0_3 a0_4 a0_0 a0_1_0 a0_1_1 a0_2 a0_4))) := by kernel_rfl
theorem J_ref09_shape_3_0_eq (R : Orc) (k : Nat) (w : Bool) (h4096_0 : Int) (h4096_1 : Int) (h4096_2 : Int) (h4096_3 : ByteArray) (h4096_4 : List FV) (h4096_5 : List FV) (h4097_0 : Int) (h4097_1 : Int) (h4097_2 : Int) (h4097_3 : ByteArray) (h4097_5 : List FV) : J_ref09_shape_3_0 R k w h4096_0 h4096_1 h4096_2 h4096_3 h4096_4 h4096_5 h4097_0 h4097_1 h4097_2 h4097_3 h4097_5 = onL (L_ref09_shape_1_0 R k w k 0 h4096_0 h4096_1 h4096_2 h4096_3 h4096_4 h4096_5 h4097_0 h4097_1 h4097_2 h4097_3 h4097_5) (K_ref09_shape_1 R k w) := by kernel_rfl
theorem L_ref09_shape_1_0_eq (R : Orc) (k : Nat) (w : Bool) (n : Nat) (x4 : Int) (h4096_0 : Int) (h4096_1 : Int) (h4096_2 : Int) (h4096_3 : ByteArray) (h4096_4 : List FV) (h4096_5 : List FV) (h4097_0 : Int) (h4097_1 : Int) (h4097_2 : Int) (h4097_3 : ByteArray) (h4097_5 : List FV) : L_ref09_shape_1_0 R k w (n + 1) x4 h4096_0 h4096_1 h4096_2 h4096_3 h4096_4 h4096_5 h4097_0 h4097_1 h4097_2 h4097_3 h4097_5 = ifB (decide (x4 < (List.length h4096_5 : Int)))
  (when (decide (((0 : Nat) + List.length [(FV.ag [(FV.int .i64 0), (FV.int .i64 0), (FV.int .i64 0), (FV.str (⟨#[]⟩ : ByteArray)), (FV.sl []), (FV.sl [])])]) * 88 ≤ roomy) && decide ((0 : Nat) + List.length [(FV.ag [(FV.int .i64 0), (FV.int .i64 0), (FV.int .i64 0), (FV.str (⟨#[]⟩ : ByteArray)), (FV.sl []), (FV.sl [])])] ≤ roomy)) (L_ref09_shape_1_1 R k w n (IntKind.wrap .i64 (x4 + 1)) h4096_0 h4096_1 h4096_2 h4096_3 h4096_4 h4096_5 h4097_0 h4097_1 h4097_2 h4097_3 h4097_5 [(FV.ag [(FV.int .i64 0), (FV.int .i64 0), (FV.int .i64 0), (FV.str (⟨#[]⟩ : ByteArray)), (FV.sl []), (FV.sl [])])]))
  (some ((.exit 0), X_ref09_shape_1_0 h4096_0 h4096_1 h4096_2 h4096_3 h4096_4 h4096_5 h4097_0 h4097_1 h4097_2 h4097_3 h4097_5)) := by kernel_rfl
theorem L_ref09_shape_1_1_eq (R : Orc) (k : Nat) (w : Bool) (n : Nat) (x4 : Int) (h4096_0 : Int) (h4096_1 : Int) (h4096_2 : Int) (h4096_3 : ByteArray) (h4096_4 : List FV) (h4096_5 : List FV) (h4097_0 : Int) (h4097_1 : Int) (h4097_2 : Int) (h4097_3 : ByteArray) (h4097_5 : List FV) (h4098 : List FV) : L_ref09_shape_1_1 R k w (n + 1) x4 h4096_0 h4096_1 h4096_2 h4096_3 h4096_4 h4096_5 h4097_0 h4097_1 h4097_2 h4097_3 h4097_5 h4098 = ifB (decide (x4 < (List.length h4096_5 : Int)))
  (when (decide ((List.length h4098 + List.length [(FV.ag [(FV.int .i64 0), (FV.int .i64 0), (FV.int .i64 0), (FV.str (⟨#[]⟩ : ByteArray)), (FV.sl []), (FV.sl [])])]) * 88 ≤ roomy) && decide (List.length h4098 + List.length [(FV.ag [(FV.int .i64 0), (FV.int .i64 0), (FV.int .i64 0), (FV.str (⟨#[]⟩ : ByteArray)), (FV.sl []), (FV.sl [])])] ≤ roomy)) (L_ref09_shape_1_1 R k w n (IntKind.wrap .i64 (x4 + 1)) h4096_0 h4096_1 h4096_2 h4096_3 h4096_4 h4096_5 h4097_0 h4097_1 h4097_2 h4097_3 h4097_5 (h4098 ++ [(FV.ag [(FV.int .i64 0), (FV.int .i64 0), (FV.int .i64 0), (FV.str (⟨#[]⟩ : ByteArray)), (FV.sl []), (FV.sl [])])])))
  (some ((.exit 0), X_ref09_shape_1_1 h4096_0 h4096_1 h4096_2 h4096_3 h4096_4 h4096_5 h4097_0 h4097_1 h4097_2 h4097_3 h4097_5 h4098)) := by kernel_rfl
theorem X_ref09_shape_1_0_eq (R : Orc) (k : Nat) (w : Bool) (h4096_0 : Int) (h4096_1 : Int) (h4096_2 : Int) (h4096_3 : ByteArray) (h4096_4 : List FV) (h4096_5 : List FV) (h4097_0 : Int) (h4097_1 : Int) (h4097_2 : Int) (h4097_3 : ByteArray) (h4097_5 : List FV) : K_ref09_shape_1 R k w (.exit 0) (X_ref09_shape_1_0 h4096_0 h4096_1 h4096_2 h4096_3 h4096_4 h4096_5 h4097_0 h4097_1 h4097_2 h4097_3 h4097_5) = onR (R N_ref05_Is [.fz (FV.ag [(FV.int .i64 h4097_0), (FV.int .i64 h4097_1), (FV.int .i64 h4097_2), (FV.str h4097_3), (FV.sl []), (FV.sl h4097_5)]), .fz (FV.int .i64 0)]) fun r0 => when (List.isEmpty r0.2 && allF [.fz] r0.1) (when (FV.isBool (TV.toF (List.getD r0.1 0 TV.em))) (ifB (!(FV.toBool (TV.toF (List.getD r0.1 0 TV.em))))
  (some ([.fz (FV.bool false)], []))
  (onL (L_ref09_shape_2_0 R k w k 0 h4096_0 h4096_1 h4096_2 h4096_3 h4096_4 h4096_5) (K_ref09_shape_2 R k w)))) := by kernel_rfl
theorem X_ref09_shape_1_1_eq (R : Orc) (k : Nat) (w : Bool) (h4096_0 : Int) (h4096_1 : Int) (h4096_2 : Int) (h4096_3 : ByteArray) (h4096_4 : List FV) (h4096_5 : List FV) (h4097_0 : Int) (h4097_1 : Int) (h4097_2 : Int) (h4097_3 : ByteArray) (h4097_5 : List FV) (h4098 : List FV) : K_ref09_shape_1 R k w (.exit 0) (X_ref09_shape_1_1 h4096_0 h4096_1 h4096_2 h4096_3 h4096_4 h4096_5 h4097_0 h4097_1 h4097_2 h4097_3 h4097_5 h4098) = onR (R N_ref05_Is [.fz (FV.ag [(FV.int .i64 h4097_0), (FV.int .i64 h4097_1), (FV.int .i64 h4097_2), (FV.str h4097_3), (FV.sl h4098), (FV.sl h4097_5)]), .fz (FV.int .i64 0)]) fun r1 => when (List.isEmpty r1.2 && allF [.fz] r1.1) (when (FV.isBool (TV.toF (List.getD r1.1 0 TV.em))) (ifB (!(FV.toBool (TV.toF (List.getD r1.1 0 TV.em))))
  (some ([.fz (FV.bool false)], []))
  (onL (L_ref09_shape_2_0 R k w k 0 h4096_0 h4096_1 h4096_2 h4096_3 h4096_4 h4096_5) (K_ref09_shape_2 R k w)))) := by kernel_rfl
theorem L_ref09_shape_2_0_eq (R : Orc) (k : Nat) (w : Bool) (n : Nat) (x5 : Int) (h4096_0 : Int) (h4096_1 : Int) (h4096_2 : Int) (h4096_3 : ByteArray) (h4096_4 : List FV) (h4096_5 : List FV) : L_ref09_shape_2_0 R k w (n + 1) x5 h4096_0 h4096_1 h4096_2 h4096_3 h4096_4 h4096_5 = ifB (decide (x5 < (List.length h4096_4 : Int)))
  (when ((decide (0 ≤ x5)) && (decide (x5 < (List.length h4096_4 : Int)))) (when (FV.fits 6 true (List.getD h4096_4 (Int.toNat x5) FV.nilp)) (onR (R N_ref09_shape [.fz (List.getD h4096_4 (Int.toNat x5) FV.nilp)]) fun r2 => when (List.isEmpty r2.2 && allF [.fz] r2.1) (when (FV.isBool (TV.toF (List.getD r2.1 0 TV.em))) (ifB (!(FV.toBool (TV.toF (List.getD r2.1 0 TV.em))))
   (some (.ret, X_ref09_shape_2_0 false))
   (L_ref09_shape_2_0 R k w n (IntKind.wrap .i64 (x5 + 1)) h4096_0 h4096_1 h4096_2 h4096_3 h4096_4 h4096_5))))))
  (some ((.exit 2), X_ref09_shape_2_1)) := by kernel_rfl
theorem X_ref09_shape_2_0_eq (R : Orc) (k : Nat) (w : Bool) (x2 : Bool) : K_ref09_shape_2 R k w .ret (X_ref09_shape_2_0 x2) = some ([.fz (FV.bool x2)], []) := by kernel_rfl
theorem X_ref09_shape_2_1_eq (R : Orc) (k : Nat) (w : Bool) : K_ref09_shape_2 R k w (.exit 2) (X_ref09_shape_2_1) = some ([.fz (FV.bool true)], []) := by kernel_rfl
end Go.Ab
