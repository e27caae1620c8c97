-- Written by a program of the session, out of the translation. Lean checks it.
import Derived.Test.YtjkdheebgmnpmaaA0
namespace Go.Ab
set_option linter.unusedVariables false
set_option maxRecDepth 100000
/-! keyhole/keyholelaw05.JvalTurns -/
def A_law05_JvalTurns_j1 : ACode := .seq (.draws [⟨⟨(some 37), .load 6 true (.t 3), none, none⟩, []⟩,
  ⟨⟨(some 38), .iadr (.arr 2 1 false) (.t 5) (.c (.fz (.int .i64 0))), none, none⟩, []⟩,
  ⟨⟨(some 39), .load 1 false (.t 38), none, some .str⟩, [1]⟩,
  ⟨⟨(some 40), .iadr (.arr 2 6 true) (.t 4) (.c (.fz (.int .i64 0))), none, none⟩, []⟩,
  ⟨⟨(some 41), .load 6 true (.t 40), none, none⟩, [3]⟩,
  ⟨⟨(some 42), .call N_jval_Put [((.t 37), .fz), ((.t 39), .fz), ((.t 41), .fz)] [.fz], none, none⟩, [0, 2, 4]⟩,
  ⟨⟨(some 43), .iadr (.arr 2 1 false) (.t 5) (.c (.fz (.int .i64 1))), none, none⟩, []⟩,
  ⟨⟨(some 44), .load 1 false (.t 43), none, some .str⟩, [6]⟩,
  ⟨⟨(some 45), .iadr (.arr 2 6 true) (.t 4) (.c (.fz (.int .i64 1))), none, none⟩, []⟩,
  ⟨⟨(some 46), .load 6 true (.t 45), none, none⟩, [8]⟩,
  ⟨⟨(some 47), .call N_jval_Put [((.t 42), .fz), ((.t 44), .fz), ((.t 46), .fz)] [.fz], none, none⟩, [5, 7, 9, 5]⟩,
  ⟨⟨(some 7), .alloc 6 true (.ag [.fz (.int .i64 0), .fz (.int .i64 0), .fz (.int .i64 0), .fz (.str ⟨#[]⟩), .nils, .nils]), none, none⟩, []⟩,
  ⟨⟨none, .store 6 true (.t 7) (.t 47), none, none⟩, [11, 10, 10, 0, 1, 2, 3, 4, 5, 6, 7, 8, 9, 10, 11]⟩])
 (.seq (.draws [⟨⟨(some 48), .load 6 true (.t 3), none, none⟩, []⟩,
   ⟨⟨(some 49), .iadr (.arr 2 1 false) (.t 5) (.c (.fz (.int .i64 1))), none, none⟩, []⟩,
   ⟨⟨(some 50), .load 1 false (.t 49), none, some .str⟩, [1]⟩,
   ⟨⟨(some 51), .iadr (.arr 2 6 true) (.t 4) (.c (.fz (.int .i64 1))), none, none⟩, []⟩,
   ⟨⟨(some 52), .load 6 true (.t 51), none, none⟩, [3]⟩,
   ⟨⟨(some 53), .call N_jval_Put [((.t 48), .fz), ((.t 50), .fz), ((.t 52), .fz)] [.fz], none, none⟩, [0, 2, 4]⟩,
   ⟨⟨(some 54), .iadr (.arr 2 1 false) (.t 5) (.c (.fz (.int .i64 0))), none, none⟩, []⟩,
   ⟨⟨(some 55), .load 1 false (.t 54), none, some .str⟩, [6]⟩,
   ⟨⟨(some 56), .iadr (.arr 2 6 true) (.t 4) (.c (.fz (.int .i64 0))), none, none⟩, []⟩,
   ⟨⟨(some 57), .load 6 true (.t 56), none, none⟩, [8]⟩,
   ⟨⟨(some 58), .call N_jval_Put [((.t 53), .fz), ((.t 55), .fz), ((.t 57), .fz)] [.fz], none, none⟩, [5, 7, 9, 5]⟩,
   ⟨⟨(some 8), .alloc 6 true (.ag [.fz (.int .i64 0), .fz (.int .i64 0), .fz (.int .i64 0), .fz (.str ⟨#[]⟩), .nils, .nils]), none, none⟩, []⟩,
   ⟨⟨none, .store 6 true (.t 8) (.t 58), none, none⟩, [11, 10, 10, 0, 1, 2, 3, 4, 5, 6, 7, 8, 9, 10, 11]⟩])
  (.seq (.region [⟨(some 59), .load 6 true (.t 7), none, none⟩,
    ⟨(some 60), .load 6 true (.t 8), none, none⟩,
    ⟨(some 61), .call N_ref05_Same [((.t 59), .fz), ((.t 60), .fz)] [.fz], none, some .bool⟩,
    ⟨(some 62), .mov (.t 61), none, some .bool⟩,
    ⟨(some 63), .call N_law05_lives [] [.fz], (some (62, true)), some .bool⟩,
    ⟨(some 64), .pick (.t 62) (.t 63) (.c (.fz (.bool false))), none, some .bool⟩,
    ⟨(some 6), .mov (.t 64), none, some .bool⟩])
   (.ret)))
def A_law05_JvalTurns : AFunc := ⟨3, [(.tmp 6, .fz)], .seq (.region [⟨(some 3), .box 6 true (.t 0), none, none⟩,
  ⟨(some 4), .box 12 true (.t 1), none, none⟩,
  ⟨(some 5), .box 2 true (.t 2), none, none⟩,
  ⟨(some 6), .mov (.c (.fz (.bool false))), none, some .bool⟩])
 (.seq (.seq (.region [⟨(some 9), .load 6 true (.t 3), none, none⟩,
    ⟨(some 10), .call N_ref05_Light [((.t 9), .fz), ((.c (.fz (.int .i64 200))), .fz)] [.fz], none, some .bool⟩,
    ⟨(some 11), .notB (.t 10), none, some .bool⟩,
    ⟨(some 12), .mov (.t 11), none, some .bool⟩,
    ⟨(some 13), .iadr (.arr 2 6 true) (.t 4) (.c (.fz (.int .i64 0))), (some (12, false)), none⟩,
    ⟨(some 14), .load 6 true (.t 13), (some (12, false)), none⟩,
    ⟨(some 15), .call N_ref05_Light [((.t 14), .fz), ((.c (.fz (.int .i64 100))), .fz)] [.fz], (some (12, false)), some .bool⟩,
    ⟨(some 16), .notB (.t 15), (some (12, false)), some .bool⟩,
    ⟨(some 17), .pick (.t 12) (.c (.fz (.bool true))) (.t 16), none, some .bool⟩,
    ⟨(some 18), .mov (.t 17), none, some .bool⟩,
    ⟨(some 19), .iadr (.arr 2 6 true) (.t 4) (.c (.fz (.int .i64 1))), (some (18, false)), none⟩,
    ⟨(some 20), .load 6 true (.t 19), (some (18, false)), none⟩,
    ⟨(some 21), .call N_ref05_Light [((.t 20), .fz), ((.c (.fz (.int .i64 100))), .fz)] [.fz], (some (18, false)), some .bool⟩,
    ⟨(some 22), .notB (.t 21), (some (18, false)), some .bool⟩,
    ⟨(some 23), .pick (.t 18) (.c (.fz (.bool true))) (.t 22), none, some .bool⟩,
    ⟨(some 24), .mov (.t 23), none, some .bool⟩,
    ⟨(some 25), .load 6 true (.t 3), (some (24, false)), none⟩,
    ⟨(some 26), .call N_ref05_Is [((.t 25), .fz), ((.c (.fz (.int .i64 0))), .fz)] [.fz], (some (24, false)), some .bool⟩,
    ⟨(some 27), .notB (.t 26), (some (24, false)), some .bool⟩,
    ⟨(some 28), .pick (.t 24) (.c (.fz (.bool true))) (.t 27), none, some .bool⟩,
    ⟨(some 29), .mov (.t 28), none, some .bool⟩,
    ⟨(some 30), .iadr (.arr 2 1 false) (.t 5) (.c (.fz (.int .i64 0))), (some (29, false)), none⟩,
    ⟨(some 31), .load 1 false (.t 30), (some (29, false)), some .str⟩,
    ⟨(some 32), .iadr (.arr 2 1 false) (.t 5) (.c (.fz (.int .i64 1))), (some (29, false)), none⟩,
    ⟨(some 33), .load 1 false (.t 32), (some (29, false)), some .str⟩,
    ⟨(some 34), .binS .eql (.t 31) (.t 33), (some (29, false)), some .bool⟩,
    ⟨(some 35), .pick (.t 29) (.c (.fz (.bool true))) (.t 34), none, some .bool⟩])
   (.cond (.t 35) (.seq (.region [⟨(some 36), .call N_law05_lives [] [.fz], none, some .bool⟩,
      ⟨(some 6), .mov (.t 36), none, some .bool⟩])
     (.ret))
    (.skip)))
  (.trim [3, 4, 5] A_law05_JvalTurns_j1))⟩
def J_law05_JvalTurns_1_0 (R : Orc) (k : Nat) (w : Bool) (h4096_0 : Int) (h4096_1 : Int) (h4096_2 : Int) (h4096_3 : ByteArray) (h4096_4 : List FV) (h4096_5 : List FV) (h4097_0 : Int) (h4097_1 : Int) (h4097_2 : Int) (h4097_3 : ByteArray) (h4097_4 : List FV) (h4097_5 : List FV) (h4097_6 : Int) (h4097_7 : Int) (h4097_8 : Int) (h4097_9 : ByteArray) (h4097_10 : List FV) (h4097_11 : List FV) (h4098_0 : ByteArray) (h4098_1 : ByteArray) := execL R k w [] A_law05_JvalTurns_j1 Ans ⟨[(3, .ptr 4096 0 0), (4, .ptr 4097 0 0), (5, .ptr 4098 0 0)], [(4095, .dead), (4096, .var 6 true (.fz (FV.ag [(FV.int .i64 h4096_0), (FV.int .i64 h4096_1), (FV.int .i64 h4096_2), (FV.str h4096_3), (FV.sl h4096_4), (FV.sl h4096_5)]))), (4097, .var 12 true (.fz (FV.ag [(FV.int .i64 h4097_0), (FV.int .i64 h4097_1), (FV.int .i64 h4097_2), (FV.str h4097_3), (FV.sl h4097_4), (FV.sl h4097_5), (FV.int .i64 h4097_6), (FV.int .i64 h4097_7), (FV.int .i64 h4097_8), (FV.str h4097_9), (FV.sl h4097_10), (FV.sl h4097_11)]))), (4098, .var 2 true (.fz (FV.ag [(FV.str h4098_0), (FV.str h4098_1)])))]⟩ (kFin R [(.tmp 6, .fz)] [])
theorem E_law05_JvalTurns (R : Orc) (k : Nat) (w : Bool) (a0_0 : Int) (a0_1_0 : Int) (a0_1_1 : Int) (a0_2 : ByteArray) (a0_3 : List FV) (a0_4 : List FV) (a1_0_0 : Int) (a1_0_1_0 : Int) (a1_0_1_1 : Int) (a1_0_2 : ByteArray) (a1_0_3 : List FV) (a1_0_4 : List FV) (a1_1_0 : Int) (a1_1_1_0 : Int) (a1_1_1_1 : Int) (a1_1_2 : ByteArray) (a1_1_3 : List FV) (a1_1_4 : List FV) (a2_0 : ByteArray) (a2_1 : ByteArray) : callL R k w A_law05_JvalTurns [.fz (FV.ag [(FV.int .i64 a0_0), (FV.int .i64 a0_1_0), (FV.int .i64 a0_1_1), (FV.str a0_2), (FV.sl a0_3), (FV.sl a0_4)]), .fz (FV.ag [(FV.int .i64 a1_0_0), (FV.int .i64 a1_0_1_0), (FV.int .i64 a1_0_1_1), (FV.str a1_0_2), (FV.sl a1_0_3), (FV.sl a1_0_4), (FV.int .i64 a1_1_0), (FV.int .i64 a1_1_1_0), (FV.int .i64 a1_1_1_1), (FV.str a1_1_2), (FV.sl a1_1_3), (FV.sl a1_1_4)]), .fz (FV.ag [(FV.str a2_0), (FV.str a2_1)])] = onR (R N_ref05_Light [.fz (FV.ag [(FV.int .i64 a0_0), (FV.int .i64 a0_1_0), (FV.int .i64 a0_1_1), (FV.str a0_2), (FV.sl a0_3), (FV.sl a0_4)]), .fz (FV.int .i64 200)]) fun r0 => when (List.isEmpty r0.2 && allF [.fz] r0.1) (when (FV.isBool (TV.toF (List.getD r0.1 0 TV.em))) (ifB (!(FV.toBool (TV.toF (List.getD r0.1 0 TV.em))))
  (onR (R N_law05_lives []) fun r1 => when (List.isEmpty r1.2 && allF [.fz] r1.1) (when (FV.isBool (TV.toF (List.getD r1.1 0 TV.em))) (some ([.fz (FV.bool (FV.toBool (TV.toF (List.getD r1.1 0 TV.em))))], []))))
  (onR (R N_ref05_Light [.fz (FV.ag [(FV.int .i64 a1_0_0), (FV.int .i64 a1_0_1_0), (FV.int .i64 a1_0_1_1), (FV.str a1_0_2), (FV.sl a1_0_3), (FV.sl a1_0_4)]), .fz (FV.int .i64 100)]) fun r2 => when (List.isEmpty r2.2 && allF [.fz] r2.1) (when (FV.isBool (TV.toF (List.getD r2.1 0 TV.em))) (ifB (!(FV.toBool (TV.toF (List.getD r2.1 0 TV.em))))
   (onR (R N_law05_lives []) fun r3 => when (List.isEmpty r3.2 && allF [.fz] r3.1) (when (FV.isBool (TV.toF (List.getD r3.1 0 TV.em))) (some ([.fz (FV.bool (FV.toBool (TV.toF (List.getD r3.1 0 TV.em))))], []))))
   (onR (R N_ref05_Light [.fz (FV.ag [(FV.int .i64 a1_1_0), (FV.int .i64 a1_1_1_0), (FV.int .i64 a1_1_1_1), (FV.str a1_1_2), (FV.sl a1_1_3), (FV.sl a1_1_4)]), .fz (FV.int .i64 100)]) fun r4 => when (List.isEmpty r4.2 && allF [.fz] r4.1) (when (FV.isBool (TV.toF (List.getD r4.1 0 TV.em))) (ifB (!(FV.toBool (TV.toF (List.getD r4.1 0 TV.em))))
    (onR (R N_law05_lives []) fun r5 => when (List.isEmpty r5.2 && allF [.fz] r5.1) (when (FV.isBool (TV.toF (List.getD r5.1 0 TV.em))) (some ([.fz (FV.bool (FV.toBool (TV.toF (List.getD r5.1 0 TV.em))))], []))))
    (onR (R N_ref05_Is [.fz (FV.ag [(FV.int .i64 a0_0), (FV.int .i64 a0_1_0), (FV.int .i64 a0_1_1), (FV.str a0_2), (FV.sl a0_3), (FV.sl a0_4)]), .fz (FV.int .i64 0)]) fun r6 => when (List.isEmpty r6.2 && allF [.fz] r6.1) (when (FV.isBool (TV.toF (List.getD r6.1 0 TV.em))) (ifB (!(FV.toBool (TV.toF (List.getD r6.1 0 TV.em))))
     (onR (R N_law05_lives []) fun r7 => when (List.isEmpty r7.2 && allF [.fz] r7.1) (when (FV.isBool (TV.toF (List.getD r7.1 0 TV.em))) (some ([.fz (FV.bool (FV.toBool (TV.toF (List.getD r7.1 0 TV.em))))], []))))
     (ifB (ByteArray.toList a2_0 == ByteArray.toList a2_1)
      (onR (R N_law05_lives []) fun r8 => when (List.isEmpty r8.2 && allF [.fz] r8.1) (when (FV.isBool (TV.toF (List.getD r8.1 0 TV.em))) (some ([.fz (FV.bool (FV.toBool (TV.toF (List.getD r8.1 0 TV.em))))], []))))
      (jump w (J_law05_JvalTurns_1_0 R k w a0_0 a0_1_0 a0_1_1 a0_2 a0_3 a0_4 a1_0_0 a1_0_1_0 a1_0_1_1 a1_0_2 a1_0_3 a1_0_4 a1_1_0 a1_1_1_0 a1_1_1_1 a1_1_2 a1_1_3 a1_1_4 a2_0 a2_1)))))))))))))) := by kernel_rfl
theorem J_law05_JvalTurns_1_0_eq (R : Orc) (k : Nat) (w : Bool) (h4096_0 : Int) (h4096_1 : Int) (h4096_2 : Int) (h4096_3 : ByteArray) (h4096_4 : List FV) (h4096_5 : List FV) (h4097_0 : Int) (h4097_1 : Int) (h4097_2 : Int) (h4097_3 : ByteArray) (h4097_4 : List FV) (h4097_5 : List FV) (h4097_6 : Int) (h4097_7 : Int) (h4097_8 : Int) (h4097_9 : ByteArray) (h4097_10 : List FV) (h4097_11 : List FV) (h4098_0 : ByteArray) (h4098_1 : ByteArray) : J_law05_JvalTurns_1_0 R k w h4096_0 h4096_1 h4096_2 h4096_3 h4096_4 h4096_5 h4097_0 h4097_1 h4097_2 h4097_3 h4097_4 h4097_5 h4097_6 h4097_7 h4097_8 h4097_9 h4097_10 h4097_11 h4098_0 h4098_1 = onR (R N_jval_Put [.fz (FV.ag [(FV.int .i64 h4096_0), (FV.int .i64 h4096_1), (FV.int .i64 h4096_2), (FV.str h4096_3), (FV.sl h4096_4), (FV.sl h4096_5)]), .fz (FV.str h4098_0), .fz (FV.ag [(FV.int .i64 h4097_0), (FV.int .i64 h4097_1), (FV.int .i64 h4097_2), (FV.str h4097_3), (FV.sl h4097_4), (FV.sl h4097_5)])]) fun r9 => when (List.isEmpty r9.2 && allF [.fz] r9.1) (onR (R N_jval_Put [.fz (TV.toF (List.getD r9.1 0 TV.em)), .fz (FV.str h4098_1), .fz (FV.ag [(FV.int .i64 h4097_6), (FV.int .i64 h4097_7), (FV.int .i64 h4097_8), (FV.str h4097_9), (FV.sl h4097_10), (FV.sl h4097_11)])]) fun r10 => when (List.isEmpty r10.2 && allF [.fz] r10.1) (when (FV.fits 6 true (TV.toF (List.getD r10.1 0 TV.em))) (onR (R N_jval_Put [.fz (FV.ag [(FV.int .i64 h4096_0), (FV.int .i64 h4096_1), (FV.int .i64 h4096_2), (FV.str h4096_3), (FV.sl h4096_4), (FV.sl h4096_5)]), .fz (FV.str h4098_1), .fz (FV.ag [(FV.int .i64 h4097_6), (FV.int .i64 h4097_7), (FV.int .i64 h4097_8), (FV.str h4097_9), (FV.sl h4097_10), (FV.sl h4097_11)])]) fun r11 => when (List.isEmpty r11.2 && allF [.fz] r11.1) (onR (R N_jval_Put [.fz (TV.toF (List.getD r11.1 0 TV.em)), .fz (FV.str h4098_0), .fz (FV.ag [(FV.int .i64 h4097_0), (FV.int .i64 h4097_1), (FV.int .i64 h4097_2), (FV.str h4097_3), (FV.sl h4097_4), (FV.sl h4097_5)])]) fun r12 => when (List.isEmpty r12.2 && allF [.fz] r12.1) (when (FV.fits 6 true (TV.toF (List.getD r12.1 0 TV.em))) (onR (R N_ref05_Same [.fz (TV.toF (List.getD r10.1 0 TV.em)), .fz (TV.toF (List.getD r12.1 0 TV.em))]) fun r13 => when (List.isEmpty r13.2 && allF [.fz] r13.1) (when (FV.isBool (TV.toF (List.getD r13.1 0 TV.em))) (ifB (FV.toBool (TV.toF (List.getD r13.1 0 TV.em)))
  (onR (R N_law05_lives []) fun r14 => when (List.isEmpty r14.2 && allF [.fz] r14.1) (when (FV.isBool (TV.toF (List.getD r14.1 0 TV.em))) (some ([.fz (FV.bool (FV.toBool (TV.toF (List.getD r14.1 0 TV.em))))], []))))
  (some ([.fz (FV.bool false)], [])))))))))) := by kernel_rfl
/-! keyhole/keyholelaw05.JvalPuts -/
def A_law05_JvalPuts_j1 : ACode := .cond (.t 54) (.seq (.region [⟨(some 56), .load 6 true (.t 3), none, none⟩,
   ⟨(some 57), .mov (.t 7), none, some .str⟩,
   ⟨(some 58), .call N_jval_Get [((.t 56), .fz), ((.t 57), .fz)] [.fz, .fz], none, none⟩,
   ⟨(some 55), .mov (.t 58), none, none⟩,
   ⟨(some 59), .extract (.t 55) 0, none, none⟩,
   ⟨(some 60), .extract (.t 55) 1, none, some .bool⟩,
   ⟨(some 10), .alloc 6 true (.ag [.fz (.int .i64 0), .fz (.int .i64 0), .fz (.int .i64 0), .fz (.str ⟨#[]⟩), .nils, .nils]), none, none⟩,
   ⟨none, .store 6 true (.t 10) (.t 59), none, none⟩,
   ⟨(some 11), .mov (.t 60), none, some .bool⟩])
  (.seq (.region [⟨(some 61), .load 6 true (.t 9), none, none⟩,
    ⟨(some 62), .load 6 true (.t 3), none, none⟩,
    ⟨(some 63), .call N_ref05_Same [((.t 61), .fz), ((.t 62), .fz)] [.fz], none, some .bool⟩,
    ⟨(some 64), .mov (.t 63), none, some .bool⟩,
    ⟨(some 65), .mov (.t 11), (some (64, true)), some .bool⟩,
    ⟨(some 66), .notB (.t 65), (some (64, true)), some .bool⟩,
    ⟨(some 67), .pick (.t 64) (.t 66) (.c (.fz (.bool false))), none, some .bool⟩,
    ⟨(some 68), .mov (.t 67), none, some .bool⟩,
    ⟨(some 69), .call N_law05_lives [] [.fz], (some (68, true)), some .bool⟩,
    ⟨(some 70), .pick (.t 68) (.t 69) (.c (.fz (.bool false))), none, some .bool⟩,
    ⟨(some 6), .mov (.t 70), none, some .bool⟩])
   (.ret)))
 (.skip)
def A_law05_JvalPuts_b1 : ACode := .seq (.seq (.region [⟨(some 71), .mov (.t 12), none, some (.int .i64)⟩,
   ⟨(some 72), .fadr 5 (.t 3), none, none⟩,
   ⟨(some 73), .load 1 false (.t 72), none, none⟩,
   ⟨(some 74), .len (.sl 1 false) (.t 73), none, some (.int .i64)⟩,
   ⟨(some 75), .binI .lss .i64 (.t 71) (.t 74), none, some .bool⟩])
  (.cond (.t 75) (.skip)
   (.exit 0)))
 (.seq (.block 1 (.seq (.draws [⟨⟨(some 78), .fadr 5 (.t 3), none, none⟩, []⟩,
     ⟨⟨(some 79), .load 1 false (.t 78), none, none⟩, [0]⟩,
     ⟨⟨(some 80), .mov (.t 12), none, some (.int .i64)⟩, []⟩,
     ⟨⟨(some 81), .iadr (.sl 1 false) (.t 79) (.t 80), none, none⟩, [1, 2]⟩,
     ⟨⟨(some 82), .load 1 false (.t 81), none, some .str⟩, [3]⟩,
     ⟨⟨(some 83), .fadr 5 (.t 3), none, none⟩, []⟩,
     ⟨⟨(some 84), .load 1 false (.t 83), none, none⟩, [5]⟩,
     ⟨⟨(some 85), .mov (.t 12), none, some (.int .i64)⟩, []⟩,
     ⟨⟨(some 86), .binI .sub .i64 (.t 85) (.c (.fz (.int .i64 1))), none, some (.int .i64)⟩, [7]⟩,
     ⟨⟨(some 87), .iadr (.sl 1 false) (.t 84) (.t 86), none, none⟩, [6, 8]⟩,
     ⟨⟨(some 88), .load 1 false (.t 87), none, some .str⟩, [9]⟩,
     ⟨⟨(some 89), .binS .leq (.t 82) (.t 88), none, some .bool⟩, [4, 10]⟩])
    (.cond (.t 89) (.seq (.region [⟨(some 90), .call N_law05_lives [] [.fz], none, some .bool⟩,
       ⟨(some 6), .mov (.t 90), none, some .bool⟩])
      (.ret))
     (.skip))))
  (.region [⟨(some 76), .mov (.t 12), none, some (.int .i64)⟩,
   ⟨(some 77), .binI .add .i64 (.t 76) (.c (.fz (.int .i64 1))), none, some (.int .i64)⟩,
   ⟨(some 12), .mov (.t 77), none, some (.int .i64)⟩]))
def A_law05_JvalPuts_b2 : ACode := .seq (.seq (.region [⟨(some 155), .mov (.t 22), none, some (.int .i64)⟩,
   ⟨(some 156), .fadr 5 (.t 9), none, none⟩,
   ⟨(some 157), .load 1 false (.t 156), none, none⟩,
   ⟨(some 158), .len (.sl 1 false) (.t 157), none, some (.int .i64)⟩,
   ⟨(some 159), .binI .lss .i64 (.t 155) (.t 158), none, some .bool⟩])
  (.cond (.t 159) (.skip)
   (.exit 2)))
 (.seq (.block 3 (.seq (.draws [⟨⟨(some 162), .fadr 5 (.t 9), none, none⟩, []⟩,
     ⟨⟨(some 163), .load 1 false (.t 162), none, none⟩, [0]⟩,
     ⟨⟨(some 164), .mov (.t 22), none, some (.int .i64)⟩, []⟩,
     ⟨⟨(some 165), .iadr (.sl 1 false) (.t 163) (.t 164), none, none⟩, [1, 2]⟩,
     ⟨⟨(some 166), .load 1 false (.t 165), none, some .str⟩, [3]⟩,
     ⟨⟨(some 167), .fadr 5 (.t 9), none, none⟩, []⟩,
     ⟨⟨(some 168), .load 1 false (.t 167), none, none⟩, [5]⟩,
     ⟨⟨(some 169), .mov (.t 22), none, some (.int .i64)⟩, []⟩,
     ⟨⟨(some 170), .binI .sub .i64 (.t 169) (.c (.fz (.int .i64 1))), none, some (.int .i64)⟩, [7]⟩,
     ⟨⟨(some 171), .iadr (.sl 1 false) (.t 168) (.t 170), none, none⟩, [6, 8]⟩,
     ⟨⟨(some 172), .load 1 false (.t 171), none, some .str⟩, [9]⟩,
     ⟨⟨(some 173), .binS .leq (.t 166) (.t 172), none, some .bool⟩, [4, 10]⟩])
    (.cond (.t 173) (.seq (.region [⟨(some 6), .mov (.c (.fz (.bool false))), none, some .bool⟩])
      (.ret))
     (.skip))))
  (.region [⟨(some 160), .mov (.t 22), none, some (.int .i64)⟩,
   ⟨(some 161), .binI .add .i64 (.t 160) (.c (.fz (.int .i64 1))), none, some (.int .i64)⟩,
   ⟨(some 22), .mov (.t 161), none, some (.int .i64)⟩]))
def A_law05_JvalPuts_b3 : ACode := .seq (.seq (.region [⟨(some 174), .mov (.t 23), none, some (.int .i64)⟩,
   ⟨(some 175), .fadr 5 (.t 3), none, none⟩,
   ⟨(some 176), .load 1 false (.t 175), none, none⟩,
   ⟨(some 177), .len (.sl 1 false) (.t 176), none, some (.int .i64)⟩,
   ⟨(some 178), .binI .lss .i64 (.t 174) (.t 177), none, some .bool⟩])
  (.cond (.t 178) (.skip)
   (.exit 4)))
 (.seq (.block 5 (.seq (.draws [⟨⟨(some 182), .load 6 true (.t 9), none, none⟩, []⟩,
     ⟨⟨(some 183), .fadr 5 (.t 3), none, none⟩, []⟩,
     ⟨⟨(some 184), .load 1 false (.t 183), none, none⟩, [1]⟩,
     ⟨⟨(some 185), .mov (.t 23), none, some (.int .i64)⟩, []⟩,
     ⟨⟨(some 186), .iadr (.sl 1 false) (.t 184) (.t 185), none, none⟩, [2, 3]⟩,
     ⟨⟨(some 187), .load 1 false (.t 186), none, some .str⟩, [4]⟩,
     ⟨⟨(some 188), .call N_jval_Get [((.t 182), .fz), ((.t 187), .fz)] [.fz, .fz], none, none⟩, [0, 5]⟩,
     ⟨⟨(some 181), .mov (.t 188), none, none⟩, [6]⟩,
     ⟨⟨(some 189), .extract (.t 181) 0, none, none⟩, [7]⟩,
     ⟨⟨(some 190), .extract (.t 181) 1, none, some .bool⟩, [7]⟩,
     ⟨⟨(some 24), .alloc 6 true (.ag [.fz (.int .i64 0), .fz (.int .i64 0), .fz (.int .i64 0), .fz (.str ⟨#[]⟩), .nils, .nils]), none, none⟩, []⟩,
     ⟨⟨none, .store 6 true (.t 24) (.t 189), none, none⟩, [10, 8, 6, 0, 1, 2, 3, 4, 5, 6, 7, 8, 10]⟩,
     ⟨⟨(some 25), .mov (.t 190), none, some .bool⟩, [9, 11, 0, 1, 2, 3, 4, 5, 6, 7, 8, 9, 10, 11]⟩])
    (.seq (.draws [⟨⟨(some 191), .mov (.t 25), none, some .bool⟩, []⟩,
      ⟨⟨(some 192), .notB (.t 191), none, some .bool⟩, [0]⟩,
      ⟨⟨(some 193), .mov (.t 192), none, some .bool⟩, [1]⟩,
      ⟨⟨(some 194), .fadr 5 (.t 3), (some (193, false)), none⟩, [2]⟩,
      ⟨⟨(some 195), .load 1 false (.t 194), (some (193, false)), none⟩, [3, 2]⟩,
      ⟨⟨(some 196), .mov (.t 23), (some (193, false)), some (.int .i64)⟩, [2]⟩,
      ⟨⟨(some 197), .iadr (.sl 1 false) (.t 195) (.t 196), (some (193, false)), none⟩, [4, 5, 2]⟩,
      ⟨⟨(some 198), .load 1 false (.t 197), (some (193, false)), some .str⟩, [6, 2]⟩,
      ⟨⟨(some 199), .mov (.t 7), (some (193, false)), some .str⟩, [2]⟩,
      ⟨⟨(some 200), .binS .neq (.t 198) (.t 199), (some (193, false)), some .bool⟩, [7, 8, 2]⟩,
      ⟨⟨(some 201), .mov (.t 200), (some (193, false)), some .bool⟩, [9, 2, 2]⟩,
      ⟨⟨(some 202), .load 6 true (.t 24), (some (201, true)), none⟩, [10]⟩,
      ⟨⟨(some 203), .fadr 4 (.t 3), (some (201, true)), none⟩, [10]⟩,
      ⟨⟨(some 204), .load 1 false (.t 203), (some (201, true)), none⟩, [12, 10]⟩,
      ⟨⟨(some 205), .mov (.t 23), (some (201, true)), some (.int .i64)⟩, [10]⟩,
      ⟨⟨(some 206), .iadr (.sl 6 true) (.t 204) (.t 205), (some (201, true)), none⟩, [13, 14, 10]⟩,
      ⟨⟨(some 207), .load 6 true (.t 206), (some (201, true)), none⟩, [15, 10]⟩,
      ⟨⟨(some 208), .call N_ref05_Same [((.t 202), .fz), ((.t 207), .fz)] [.fz], (some (201, true)), some .bool⟩, [11, 16, 10, 10]⟩,
      ⟨⟨(some 209), .notB (.t 208), (some (201, true)), some .bool⟩, [17, 10]⟩,
      ⟨⟨(some 210), .pick (.t 201) (.t 209) (.c (.fz (.bool false))), (some (193, false)), some .bool⟩, [10, 18, 2]⟩,
      ⟨⟨(some 211), .pick (.t 193) (.c (.fz (.bool true))) (.t 210), none, some .bool⟩, [2, 19]⟩])
     (.cond (.t 211) (.seq (.region [⟨(some 6), .mov (.c (.fz (.bool false))), none, some .bool⟩])
       (.ret))
      (.skip)))))
  (.region [⟨(some 179), .mov (.t 23), none, some (.int .i64)⟩,
   ⟨(some 180), .binI .add .i64 (.t 179) (.c (.fz (.int .i64 1))), none, some (.int .i64)⟩,
   ⟨(some 23), .mov (.t 180), none, some (.int .i64)⟩]))
def A_law05_JvalPuts_s2 : ACode := .seq (.region [⟨(some 212), .fadr 5 (.t 9), none, none⟩,
  ⟨(some 213), .load 1 false (.t 212), none, none⟩,
  ⟨(some 214), .len (.sl 1 false) (.t 213), none, some (.int .i64)⟩,
  ⟨(some 215), .mov (.t 21), none, some (.int .i64)⟩,
  ⟨(some 216), .binI .eql .i64 (.t 214) (.t 215), none, some .bool⟩,
  ⟨(some 217), .mov (.t 216), none, some .bool⟩,
  ⟨(some 218), .fadr 0 (.t 9), (some (217, true)), none⟩,
  ⟨(some 219), .load 1 false (.t 218), (some (217, true)), some (.int .i64)⟩,
  ⟨(some 220), .binI .eql .i64 (.t 219) (.c (.fz (.int .i64 6))), (some (217, true)), some .bool⟩,
  ⟨(some 221), .pick (.t 217) (.t 220) (.c (.fz (.bool false))), none, some .bool⟩,
  ⟨(some 222), .mov (.t 221), none, some .bool⟩,
  ⟨(some 223), .call N_law05_lives [] [.fz], (some (222, true)), some .bool⟩,
  ⟨(some 224), .pick (.t 222) (.t 223) (.c (.fz (.bool false))), none, some .bool⟩,
  ⟨(some 6), .mov (.t 224), none, some .bool⟩])
 (.ret)
def A_law05_JvalPuts_s3 : ACode := .seq (.seq (.region [⟨(some 23), .mov (.c (.fz (.int .i64 0))), none, some (.int .i64)⟩])
  (.block 4 (.loop [3, 7, 9, 21, 23] [6, 9, 21] A_law05_JvalPuts_b3)))
 A_law05_JvalPuts_s2
def A_law05_JvalPuts_j4 : ACode := .seq (.seq (.region [⟨(some 22), .mov (.c (.fz (.int .i64 1))), none, some (.int .i64)⟩])
  (.block 2 (.loop [3, 7, 9, 21, 22] [3, 6, 7, 9, 21] A_law05_JvalPuts_b2)))
 A_law05_JvalPuts_s3
def A_law05_JvalPuts_j5 : ACode := .seq (.region [⟨(some 143), .load 6 true (.t 3), none, none⟩,
  ⟨(some 144), .mov (.t 7), none, some .str⟩,
  ⟨(some 145), .call N_jval_Get [((.t 143), .fz), ((.t 144), .fz)] [.fz, .fz], none, none⟩,
  ⟨(some 142), .mov (.t 145), none, none⟩,
  ⟨(some 146), .extract (.t 142) 0, none, none⟩,
  ⟨(some 147), .extract (.t 142) 1, none, some .bool⟩,
  ⟨(some 19), .alloc 6 true (.ag [.fz (.int .i64 0), .fz (.int .i64 0), .fz (.int .i64 0), .fz (.str ⟨#[]⟩), .nils, .nils]), none, none⟩,
  ⟨none, .store 6 true (.t 19) (.t 146), none, none⟩,
  ⟨(some 20), .mov (.t 147), none, some .bool⟩])
 (.seq (.region [⟨(some 148), .fadr 5 (.t 3), none, none⟩,
   ⟨(some 149), .load 1 false (.t 148), none, none⟩,
   ⟨(some 150), .len (.sl 1 false) (.t 149), none, some (.int .i64)⟩,
   ⟨(some 151), .binI .add .i64 (.t 150) (.c (.fz (.int .i64 1))), none, some (.int .i64)⟩,
   ⟨(some 21), .mov (.t 151), none, some (.int .i64)⟩])
  (.seq (.seq (.region [⟨(some 152), .mov (.t 20), none, some .bool⟩])
    (.cond (.t 152) (.region [⟨(some 153), .mov (.t 21), none, some (.int .i64)⟩,
      ⟨(some 154), .binI .sub .i64 (.t 153) (.c (.fz (.int .i64 1))), none, some (.int .i64)⟩,
      ⟨(some 21), .mov (.t 154), none, some (.int .i64)⟩])
     (.skip)))
   (.trim [3, 7, 9, 21] A_law05_JvalPuts_j4)))
def A_law05_JvalPuts_s6 : ACode := .seq (.region [⟨(some 92), .load 6 true (.t 9), none, none⟩,
  ⟨(some 93), .mov (.t 7), none, some .str⟩,
  ⟨(some 94), .call N_jval_Get [((.t 92), .fz), ((.t 93), .fz)] [.fz, .fz], none, none⟩,
  ⟨(some 91), .mov (.t 94), none, none⟩,
  ⟨(some 95), .extract (.t 91) 0, none, none⟩,
  ⟨(some 96), .extract (.t 91) 1, none, some .bool⟩,
  ⟨(some 13), .alloc 6 true (.ag [.fz (.int .i64 0), .fz (.int .i64 0), .fz (.int .i64 0), .fz (.str ⟨#[]⟩), .nils, .nils]), none, none⟩,
  ⟨none, .store 6 true (.t 13) (.t 95), none, none⟩,
  ⟨(some 14), .mov (.t 96), none, some .bool⟩])
 (.seq (.region [⟨(some 98), .load 6 true (.t 3), none, none⟩,
   ⟨(some 99), .mov (.t 8), none, some .str⟩,
   ⟨(some 100), .call N_jval_Get [((.t 98), .fz), ((.t 99), .fz)] [.fz, .fz], none, none⟩,
   ⟨(some 97), .mov (.t 100), none, none⟩,
   ⟨(some 101), .extract (.t 97) 0, none, none⟩,
   ⟨(some 102), .extract (.t 97) 1, none, some .bool⟩,
   ⟨(some 15), .alloc 6 true (.ag [.fz (.int .i64 0), .fz (.int .i64 0), .fz (.int .i64 0), .fz (.str ⟨#[]⟩), .nils, .nils]), none, none⟩,
   ⟨none, .store 6 true (.t 15) (.t 101), none, none⟩,
   ⟨(some 16), .mov (.t 102), none, some .bool⟩])
  (.seq (.region [⟨(some 104), .load 6 true (.t 9), none, none⟩,
    ⟨(some 105), .mov (.t 8), none, some .str⟩,
    ⟨(some 106), .call N_jval_Get [((.t 104), .fz), ((.t 105), .fz)] [.fz, .fz], none, none⟩,
    ⟨(some 103), .mov (.t 106), none, none⟩,
    ⟨(some 107), .extract (.t 103) 0, none, none⟩,
    ⟨(some 108), .extract (.t 103) 1, none, some .bool⟩,
    ⟨(some 17), .alloc 6 true (.ag [.fz (.int .i64 0), .fz (.int .i64 0), .fz (.int .i64 0), .fz (.str ⟨#[]⟩), .nils, .nils]), none, none⟩,
    ⟨none, .store 6 true (.t 17) (.t 107), none, none⟩,
    ⟨(some 18), .mov (.t 108), none, some .bool⟩])
   (.seq (.seq (.region [⟨(some 109), .mov (.t 14), none, some .bool⟩,
      ⟨(some 110), .notB (.t 109), none, some .bool⟩,
      ⟨(some 111), .mov (.t 110), none, some .bool⟩,
      ⟨(some 112), .load 6 true (.t 13), (some (111, false)), none⟩,
      ⟨(some 113), .load 6 true (.t 4), (some (111, false)), none⟩,
      ⟨(some 114), .call N_ref05_Same [((.t 112), .fz), ((.t 113), .fz)] [.fz], (some (111, false)), some .bool⟩,
      ⟨(some 115), .notB (.t 114), (some (111, false)), some .bool⟩,
      ⟨(some 116), .pick (.t 111) (.c (.fz (.bool true))) (.t 115), none, some .bool⟩,
      ⟨(some 117), .mov (.t 116), none, some .bool⟩,
      ⟨(some 118), .mov (.t 8), (some (117, false)), some .str⟩,
      ⟨(some 119), .mov (.t 7), (some (117, false)), some .str⟩,
      ⟨(some 120), .binS .neq (.t 118) (.t 119), (some (117, false)), some .bool⟩,
      ⟨(some 121), .mov (.t 120), (some (117, false)), some .bool⟩,
      ⟨(some 122), .mov (.t 16), (some (121, true)), some .bool⟩,
      ⟨(some 123), .mov (.t 18), (some (121, true)), some .bool⟩,
      ⟨(some 124), .binB true (.t 122) (.t 123), (some (121, true)), some .bool⟩,
      ⟨(some 125), .mov (.t 124), (some (121, true)), some .bool⟩,
      ⟨(some 126), .load 6 true (.t 15), (some (125, false)), none⟩,
      ⟨(some 127), .load 6 true (.t 17), (some (125, false)), none⟩,
      ⟨(some 128), .call N_ref05_Same [((.t 126), .fz), ((.t 127), .fz)] [.fz], (some (125, false)), some .bool⟩,
      ⟨(some 129), .notB (.t 128), (some (125, false)), some .bool⟩,
      ⟨(some 130), .pick (.t 125) (.c (.fz (.bool true))) (.t 129), (some (121, true)), some .bool⟩,
      ⟨(some 131), .pick (.t 121) (.t 130) (.c (.fz (.bool false))), (some (117, false)), some .bool⟩,
      ⟨(some 132), .pick (.t 117) (.c (.fz (.bool true))) (.t 131), none, some .bool⟩,
      ⟨(some 133), .mov (.t 132), none, some .bool⟩,
      ⟨(some 134), .fadr 5 (.t 9), (some (133, false)), none⟩,
      ⟨(some 135), .load 1 false (.t 134), (some (133, false)), none⟩,
      ⟨(some 136), .len (.sl 1 false) (.t 135), (some (133, false)), some (.int .i64)⟩,
      ⟨(some 137), .fadr 4 (.t 9), (some (133, false)), none⟩,
      ⟨(some 138), .load 1 false (.t 137), (some (133, false)), none⟩,
      ⟨(some 139), .len (.sl 6 true) (.t 138), (some (133, false)), some (.int .i64)⟩,
      ⟨(some 140), .binI .neq .i64 (.t 136) (.t 139), (some (133, false)), some .bool⟩,
      ⟨(some 141), .pick (.t 133) (.c (.fz (.bool true))) (.t 140), none, some .bool⟩])
     (.cond (.t 141) (.seq (.region [⟨(some 6), .mov (.c (.fz (.bool false))), none, some .bool⟩])
       (.ret))
      (.skip)))
    (.trim [3, 7, 9] A_law05_JvalPuts_j5))))
def A_law05_JvalPuts_j7 : ACode := .seq (.seq (.region [⟨(some 12), .mov (.c (.fz (.int .i64 1))), none, some (.int .i64)⟩])
  (.block 0 (.loop [3, 4, 7, 8, 9, 12] [3, 4, 6, 7, 8, 9] A_law05_JvalPuts_b1)))
 A_law05_JvalPuts_s6
def A_law05_JvalPuts_s8 : ACode := .trim [3, 4, 7, 8, 9] A_law05_JvalPuts_j7
def A_law05_JvalPuts_j9 : ACode := .seq (.region [⟨(some 39), .load 6 true (.t 3), none, none⟩,
  ⟨(some 40), .mov (.t 7), none, some .str⟩,
  ⟨(some 41), .load 6 true (.t 4), none, none⟩,
  ⟨(some 42), .call N_jval_Put [((.t 39), .fz), ((.t 40), .fz), ((.t 41), .fz)] [.fz], none, none⟩,
  ⟨(some 9), .alloc 6 true (.ag [.fz (.int .i64 0), .fz (.int .i64 0), .fz (.int .i64 0), .fz (.str ⟨#[]⟩), .nils, .nils]), none, none⟩,
  ⟨none, .store 6 true (.t 9) (.t 42), none, none⟩])
 (.seq (.seq (.region [⟨(some 43), .fadr 0 (.t 3), none, none⟩,
    ⟨(some 44), .load 1 false (.t 43), none, some (.int .i64)⟩,
    ⟨(some 45), .binI .neq .i64 (.t 44) (.c (.fz (.int .i64 6))), none, some .bool⟩,
    ⟨(some 46), .mov (.t 45), none, some .bool⟩,
    ⟨(some 47), .fadr 5 (.t 3), (some (46, false)), none⟩,
    ⟨(some 48), .load 1 false (.t 47), (some (46, false)), none⟩,
    ⟨(some 49), .len (.sl 1 false) (.t 48), (some (46, false)), some (.int .i64)⟩,
    ⟨(some 50), .fadr 4 (.t 3), (some (46, false)), none⟩,
    ⟨(some 51), .load 1 false (.t 50), (some (46, false)), none⟩,
    ⟨(some 52), .len (.sl 6 true) (.t 51), (some (46, false)), some (.int .i64)⟩,
    ⟨(some 53), .binI .neq .i64 (.t 49) (.t 52), (some (46, false)), some .bool⟩,
    ⟨(some 54), .pick (.t 46) (.c (.fz (.bool true))) (.t 53), none, some .bool⟩])
   (.trim [3, 4, 7, 8, 9, 54] A_law05_JvalPuts_j1))
  A_law05_JvalPuts_s8)
def A_law05_JvalPuts : AFunc := ⟨3, [(.tmp 6, .fz)], .seq (.region [⟨(some 3), .box 6 true (.t 0), none, none⟩,
  ⟨(some 4), .box 6 true (.t 1), none, none⟩,
  ⟨(some 5), .box 2 true (.t 2), none, none⟩,
  ⟨(some 6), .mov (.c (.fz (.bool false))), none, some .bool⟩])
 (.seq (.draws [⟨⟨(some 26), .iadr (.arr 2 1 false) (.t 5) (.c (.fz (.int .i64 0))), none, none⟩, []⟩,
   ⟨⟨(some 27), .load 1 false (.t 26), none, some .str⟩, [0]⟩,
   ⟨⟨(some 28), .iadr (.arr 2 1 false) (.t 5) (.c (.fz (.int .i64 1))), none, none⟩, []⟩,
   ⟨⟨(some 29), .load 1 false (.t 28), none, some .str⟩, [2]⟩,
   ⟨⟨(some 7), .mov (.t 27), none, some .str⟩, [1, 0, 1]⟩,
   ⟨⟨(some 8), .mov (.t 29), none, some .str⟩, [3, 4, 0, 1, 2, 3, 4]⟩])
  (.seq (.seq (.region [⟨(some 30), .load 6 true (.t 3), none, none⟩,
     ⟨(some 31), .call N_ref05_Light [((.t 30), .fz), ((.c (.fz (.int .i64 300))), .fz)] [.fz], none, some .bool⟩,
     ⟨(some 32), .notB (.t 31), none, some .bool⟩,
     ⟨(some 33), .mov (.t 32), none, some .bool⟩,
     ⟨(some 34), .load 6 true (.t 4), (some (33, false)), none⟩,
     ⟨(some 35), .call N_ref05_Light [((.t 34), .fz), ((.c (.fz (.int .i64 300))), .fz)] [.fz], (some (33, false)), some .bool⟩,
     ⟨(some 36), .notB (.t 35), (some (33, false)), some .bool⟩,
     ⟨(some 37), .pick (.t 33) (.c (.fz (.bool true))) (.t 36), none, some .bool⟩])
    (.cond (.t 37) (.seq (.region [⟨(some 38), .call N_law05_lives [] [.fz], none, some .bool⟩,
       ⟨(some 6), .mov (.t 38), none, some .bool⟩])
      (.ret))
     (.skip)))
   (.trim [3, 4, 7, 8] A_law05_JvalPuts_j9)))⟩
def J_law05_JvalPuts_9_0 (R : Orc) (k : Nat) (w : Bool) (x7 : ByteArray) (x8 : ByteArray) (h4096_0 : Int) (h4096_1 : Int) (h4096_2 : Int) (h4096_3 : ByteArray) (h4096_4 : List FV) (h4096_5 : List FV) (h4097_0 : Int) (h4097_1 : Int) (h4097_2 : Int) (h4097_3 : ByteArray) (h4097_4 : List FV) (h4097_5 : List FV) := execL R k w [] A_law05_JvalPuts_j9 Ans ⟨[(3, .ptr 4096 0 0), (4, .ptr 4097 0 0), (7, .fz (FV.str x7)), (8, .fz (FV.str x8))], [(4095, .dead), (4096, .var 6 true (.fz (FV.ag [(FV.int .i64 h4096_0), (FV.int .i64 h4096_1), (FV.int .i64 h4096_2), (FV.str h4096_3), (FV.sl h4096_4), (FV.sl h4096_5)]))), (4097, .var 6 true (.fz (FV.ag [(FV.int .i64 h4097_0), (FV.int .i64 h4097_1), (FV.int .i64 h4097_2), (FV.str h4097_3), (FV.sl h4097_4), (FV.sl h4097_5)])))]⟩ (kFin R [(.tmp 6, .fz)] [])
def J_law05_JvalPuts_1_0 (R : Orc) (k : Nat) (w : Bool) (x7 : ByteArray) (x8 : ByteArray) (x54 : Bool) (h4096_0 : Int) (h4096_1 : Int) (h4096_2 : Int) (h4096_3 : ByteArray) (h4096_4 : List FV) (h4096_5 : List FV) (h4097_0 : Int) (h4097_1 : Int) (h4097_2 : Int) (h4097_3 : ByteArray) (h4097_4 : List FV) (h4097_5 : List FV) (h4098 : FV) := execL R k w [] A_law05_JvalPuts_j1 Ans ⟨[(3, .ptr 4096 0 0), (4, .ptr 4097 0 0), (7, .fz (FV.str x7)), (8, .fz (FV.str x8)), (9, .ptr 4098 0 0), (54, .fz (FV.bool x54))], [(4095, .dead), (4096, .var 6 true (.fz (FV.ag [(FV.int .i64 h4096_0), (FV.int .i64 h4096_1), (FV.int .i64 h4096_2), (FV.str h4096_3), (FV.sl h4096_4), (FV.sl h4096_5)]))), (4097, .var 6 true (.fz (FV.ag [(FV.int .i64 h4097_0), (FV.int .i64 h4097_1), (FV.int .i64 h4097_2), (FV.str h4097_3), (FV.sl h4097_4), (FV.sl h4097_5)]))), (4098, .var 6 true (.fz h4098))]⟩ (kSeq R k w [] A_law05_JvalPuts_s8 (kFin R [(.tmp 6, .fz)] []))
def J_law05_JvalPuts_7_0 (R : Orc) (k : Nat) (w : Bool) (x7 : ByteArray) (x8 : ByteArray) (h4096_0 : Int) (h4096_1 : Int) (h4096_2 : Int) (h4096_3 : ByteArray) (h4096_4 : List FV) (h4096_5 : List FV) (h4097_0 : Int) (h4097_1 : Int) (h4097_2 : Int) (h4097_3 : ByteArray) (h4097_4 : List FV) (h4097_5 : List FV) (h4098 : FV) := execL R k w [] A_law05_JvalPuts_j7 Ans ⟨[(3, .ptr 4096 0 0), (4, .ptr 4097 0 0), (7, .fz (FV.str x7)), (8, .fz (FV.str x8)), (9, .ptr 4098 0 0)], [(4095, .dead), (4096, .var 6 true (.fz (FV.ag [(FV.int .i64 h4096_0), (FV.int .i64 h4096_1), (FV.int .i64 h4096_2), (FV.str h4096_3), (FV.sl h4096_4), (FV.sl h4096_5)]))), (4097, .var 6 true (.fz (FV.ag [(FV.int .i64 h4097_0), (FV.int .i64 h4097_1), (FV.int .i64 h4097_2), (FV.str h4097_3), (FV.sl h4097_4), (FV.sl h4097_5)]))), (4098, .var 6 true (.fz h4098))]⟩ (kFin R [(.tmp 6, .fz)] [])
def K_law05_JvalPuts_1 (R : Orc) (k : Nat) (w : Bool) : AExit → St → Option Ans := (kBlk 0 (kSeq R k w [] A_law05_JvalPuts_s6 (kFin R [(.tmp 6, .fz)] [])))
def L_law05_JvalPuts_1_0 (R : Orc) (k : Nat) (w : Bool) (n : Nat) (x7 : ByteArray) (x8 : ByteArray) (x12 : Int) (h4096_0 : Int) (h4096_1 : Int) (h4096_2 : Int) (h4096_3 : ByteArray) (h4096_4 : List FV) (h4096_5 : List FV) (h4097_0 : Int) (h4097_1 : Int) (h4097_2 : Int) (h4097_3 : ByteArray) (h4097_4 : List FV) (h4097_5 : List FV) (h4098 : FV) := loopL R k w [] [3, 4, 7, 8, 9, 12] [3, 4, 6, 7, 8, 9] A_law05_JvalPuts_b1 n ⟨[(3, .ptr 4096 0 0), (4, .ptr 4097 0 0), (7, .fz (FV.str x7)), (8, .fz (FV.str x8)), (9, .ptr 4098 0 0), (12, .fz (FV.int .i64 x12))], [(4095, .dead), (4096, .var 6 true (.fz (FV.ag [(FV.int .i64 h4096_0), (FV.int .i64 h4096_1), (FV.int .i64 h4096_2), (FV.str h4096_3), (FV.sl h4096_4), (FV.sl h4096_5)]))), (4097, .var 6 true (.fz (FV.ag [(FV.int .i64 h4097_0), (FV.int .i64 h4097_1), (FV.int .i64 h4097_2), (FV.str h4097_3), (FV.sl h4097_4), (FV.sl h4097_5)]))), (4098, .var 6 true (.fz h4098))]⟩
def X_law05_JvalPuts_1_0 (x6 : Bool) (x7 : ByteArray) (x8 : ByteArray) (h4096_0 : Int) (h4096_1 : Int) (h4096_2 : Int) (h4096_3 : ByteArray) (h4096_4 : List FV) (h4096_5 : List FV) (h4097_0 : Int) (h4097_1 : Int) (h4097_2 : Int) (h4097_3 : ByteArray) (h4097_4 : List FV) (h4097_5 : List FV) (h4098 : FV) : St := ⟨[(3, .ptr 4096 0 0), (4, .ptr 4097 0 0), (6, .fz (FV.bool x6)), (7, .fz (FV.str x7)), (8, .fz (FV.str x8)), (9, .ptr 4098 0 0)], [(4095, .dead), (4096, .var 6 true (.fz (FV.ag [(FV.int .i64 h4096_0), (FV.int .i64 h4096_1), (FV.int .i64 h4096_2), (FV.str h4096_3), (FV.sl h4096_4), (FV.sl h4096_5)]))), (4097, .var 6 true (.fz (FV.ag [(FV.int .i64 h4097_0), (FV.int .i64 h4097_1), (FV.int .i64 h4097_2), (FV.str h4097_3), (FV.sl h4097_4), (FV.sl h4097_5)]))), (4098, .var 6 true (.fz h4098))]⟩
def X_law05_JvalPuts_1_1 (x7 : ByteArray) (x8 : ByteArray) (h4096_0 : Int) (h4096_1 : Int) (h4096_2 : Int) (h4096_3 : ByteArray) (h4096_4 : List FV) (h4096_5 : List FV) (h4097_0 : Int) (h4097_1 : Int) (h4097_2 : Int) (h4097_3 : ByteArray) (h4097_4 : List FV) (h4097_5 : List FV) (h4098 : FV) : St := ⟨[(3, .ptr 4096 0 0), (4, .ptr 4097 0 0), (7, .fz (FV.str x7)), (8, .fz (FV.str x8)), (9, .ptr 4098 0 0)], [(4095, .dead), (4096, .var 6 true (.fz (FV.ag [(FV.int .i64 h4096_0), (FV.int .i64 h4096_1), (FV.int .i64 h4096_2), (FV.str h4096_3), (FV.sl h4096_4), (FV.sl h4096_5)]))), (4097, .var 6 true (.fz (FV.ag [(FV.int .i64 h4097_0), (FV.int .i64 h4097_1), (FV.int .i64 h4097_2), (FV.str h4097_3), (FV.sl h4097_4), (FV.sl h4097_5)]))), (4098, .var 6 true (.fz h4098))]⟩
def J_law05_JvalPuts_5_0 (R : Orc) (k : Nat) (w : Bool) (x7 : ByteArray) (h4096_0 : Int) (h4096_1 : Int) (h4096_2 : Int) (h4096_3 : ByteArray) (h4096_4 : List FV) (h4096_5 : List FV) (h4097 : FV) := execL R k w [] A_law05_JvalPuts_j5 Ans ⟨[(3, .ptr 4096 0 0), (7, .fz (FV.str x7)), (9, .ptr 4097 0 0)], [(4095, .dead), (4096, .var 6 true (.fz (FV.ag [(FV.int .i64 h4096_0), (FV.int .i64 h4096_1), (FV.int .i64 h4096_2), (FV.str h4096_3), (FV.sl h4096_4), (FV.sl h4096_5)]))), (4097, .var 6 true (.fz h4097))]⟩ (kFin R [(.tmp 6, .fz)] [])
def J_law05_JvalPuts_4_0 (R : Orc) (k : Nat) (w : Bool) (x7 : ByteArray) (x21 : Int) (h4096_0 : Int) (h4096_1 : Int) (h4096_2 : Int) (h4096_3 : ByteArray) (h4096_4 : List FV) (h4096_5 : List FV) (h4097 : FV) := execL R k w [] A_law05_JvalPuts_j4 Ans ⟨[(3, .ptr 4096 0 0), (7, .fz (FV.str x7)), (9, .ptr 4097 0 0), (21, .fz (FV.int .i64 x21))], [(4095, .dead), (4096, .var 6 true (.fz (FV.ag [(FV.int .i64 h4096_0), (FV.int .i64 h4096_1), (FV.int .i64 h4096_2), (FV.str h4096_3), (FV.sl h4096_4), (FV.sl h4096_5)]))), (4097, .var 6 true (.fz h4097))]⟩ (kFin R [(.tmp 6, .fz)] [])
def K_law05_JvalPuts_2 (R : Orc) (k : Nat) (w : Bool) : AExit → St → Option Ans := (kBlk 2 (kSeq R k w [] A_law05_JvalPuts_s3 (kFin R [(.tmp 6, .fz)] [])))
def L_law05_JvalPuts_2_0 (R : Orc) (k : Nat) (w : Bool) (n : Nat) (x7 : ByteArray) (x21 : Int) (x22 : Int) (h4096_0 : Int) (h4096_1 : Int) (h4096_2 : Int) (h4096_3 : ByteArray) (h4096_4 : List FV) (h4096_5 : List FV) (h4097 : FV) := loopL R k w [] [3, 7, 9, 21, 22] [3, 6, 7, 9, 21] A_law05_JvalPuts_b2 n ⟨[(3, .ptr 4096 0 0), (7, .fz (FV.str x7)), (9, .ptr 4097 0 0), (21, .fz (FV.int .i64 x21)), (22, .fz (FV.int .i64 x22))], [(4095, .dead), (4096, .var 6 true (.fz (FV.ag [(FV.int .i64 h4096_0), (FV.int .i64 h4096_1), (FV.int .i64 h4096_2), (FV.str h4096_3), (FV.sl h4096_4), (FV.sl h4096_5)]))), (4097, .var 6 true (.fz h4097))]⟩
def X_law05_JvalPuts_2_0 (x6 : Bool) (x7 : ByteArray) (x21 : Int) (h4096_0 : Int) (h4096_1 : Int) (h4096_2 : Int) (h4096_3 : ByteArray) (h4096_4 : List FV) (h4096_5 : List FV) (h4097 : FV) : St := ⟨[(3, .ptr 4096 0 0), (6, .fz (FV.bool x6)), (7, .fz (FV.str x7)), (9, .ptr 4097 0 0), (21, .fz (FV.int .i64 x21))], [(4095, .dead), (4096, .var 6 true (.fz (FV.ag [(FV.int .i64 h4096_0), (FV.int .i64 h4096_1), (FV.int .i64 h4096_2), (FV.str h4096_3), (FV.sl h4096_4), (FV.sl h4096_5)]))), (4097, .var 6 true (.fz h4097))]⟩
def X_law05_JvalPuts_2_1 (x7 : ByteArray) (x21 : Int) (h4096_0 : Int) (h4096_1 : Int) (h4096_2 : Int) (h4096_3 : ByteArray) (h4096_4 : List FV) (h4096_5 : List FV) (h4097 : FV) : St := ⟨[(3, .ptr 4096 0 0), (7, .fz (FV.str x7)), (9, .ptr 4097 0 0), (21, .fz (FV.int .i64 x21))], [(4095, .dead), (4096, .var 6 true (.fz (FV.ag [(FV.int .i64 h4096_0), (FV.int .i64 h4096_1), (FV.int .i64 h4096_2), (FV.str h4096_3), (FV.sl h4096_4), (FV.sl h4096_5)]))), (4097, .var 6 true (.fz h4097))]⟩
def K_law05_JvalPuts_3 (R : Orc) (k : Nat) (w : Bool) : AExit → St → Option Ans := (kBlk 4 (kSeq R k w [] A_law05_JvalPuts_s2 (kFin R [(.tmp 6, .fz)] [])))
def L_law05_JvalPuts_3_0 (R : Orc) (k : Nat) (w : Bool) (n : Nat) (x7 : ByteArray) (x21 : Int) (x23 : Int) (h4096_0 : Int) (h4096_1 : Int) (h4096_2 : Int) (h4096_3 : ByteArray) (h4096_4 : List FV) (h4096_5 : List FV) (h4097 : FV) := loopL R k w [] [3, 7, 9, 21, 23] [6, 9, 21] A_law05_JvalPuts_b3 n ⟨[(3, .ptr 4096 0 0), (7, .fz (FV.str x7)), (9, .ptr 4097 0 0), (21, .fz (FV.int .i64 x21)), (23, .fz (FV.int .i64 x23))], [(4095, .dead), (4096, .var 6 true (.fz (FV.ag [(FV.int .i64 h4096_0), (FV.int .i64 h4096_1), (FV.int .i64 h4096_2), (FV.str h4096_3), (FV.sl h4096_4), (FV.sl h4096_5)]))), (4097, .var 6 true (.fz h4097))]⟩
def X_law05_JvalPuts_3_0 (x6 : Bool) (x21 : Int) (h4096 : FV) : St := ⟨[(6, .fz (FV.bool x6)), (9, .ptr 4096 0 0), (21, .fz (FV.int .i64 x21))], [(4095, .dead), (4096, .var 6 true (.fz h4096))]⟩
def X_law05_JvalPuts_3_1 (x21 : Int) (h4096 : FV) : St := ⟨[(9, .ptr 4096 0 0), (21, .fz (FV.int .i64 x21))], [(4095, .dead), (4096, .var 6 true (.fz h4096))]⟩
theorem E_law05_JvalPuts (R : Orc) (k : Nat) (w : Bool) (a0_0 : Int) (a0_1_0 : Int) (a0_1_1 : Int) (a0_2 : ByteArray) (a0_3 : List FV) (a0_4 : List FV) (a1_0 : Int) (a1_1_0 : Int) (a1_1_1 : Int) (a1_2 : ByteArray) (a1_3 : List FV) (a1_4 : List FV) (a2_0 : ByteArray) (a2_1 : ByteArray) : callL R k w A_law05_JvalPuts [.fz (FV.ag [(FV.int .i64 a0_0), (FV.int .i64 a0_1_0), (FV.int .i64 a0_1_1), (FV.str a0_2), (FV.sl a0_3), (FV.sl a0_4)]), .fz (FV.ag [(FV.int .i64 a1_0), (FV.int .i64 a1_1_0), (FV.int .i64 a1_1_1), (FV.str a1_2), (FV.sl a1_3), (FV.sl a1_4)]), .fz (FV.ag [(FV.str a2_0), (FV.str a2_1)])] = onR (R N_ref05_Light [.fz (FV.ag [(FV.int .i64 a0_0), (FV.int .i64 a0_1_0), (FV.int .i64 a0_1_1), (FV.str a0_2), (FV.sl a0_3), (FV.sl a0_4)]), .fz (FV.int .i64 300)]) fun r0 => when (List.isEmpty r0.2 && allF [.fz] r0.1) (when (FV.isBool (TV.toF (List.getD r0.1 0 TV.em))) (ifB (!(FV.toBool (TV.toF (List.getD r0.1 0 TV.em))))
  (onR (R N_law05_lives []) fun r1 => when (List.isEmpty r1.2 && allF [.fz] r1.1) (when (FV.isBool (TV.toF (List.getD r1.1 0 TV.em))) (some ([.fz (FV.bool (FV.toBool (TV.toF (List.getD r1.1 0 TV.em))))], []))))
  (onR (R N_ref05_Light [.fz (FV.ag [(FV.int .i64 a1_0), (FV.int .i64 a1_1_0), (FV.int .i64 a1_1_1), (FV.str a1_2), (FV.sl a1_3), (FV.sl a1_4)]), .fz (FV.int .i64 300)]) fun r2 => when (List.isEmpty r2.2 && allF [.fz] r2.1) (when (FV.isBool (TV.toF (List.getD r2.1 0 TV.em))) (ifB (!(FV.toBool (TV.toF (List.getD r2.1 0 TV.em))))
   (onR (R N_law05_lives []) fun r3 => when (List.isEmpty r3.2 && allF [.fz] r3.1) (when (FV.isBool (TV.toF (List.getD r3.1 0 TV.em))) (some ([.fz (FV.bool (FV.toBool (TV.toF (List.getD r3.1 0 TV.em))))], []))))
   (jump w (J_law05_JvalPuts_9_0 R k w a2_0 a2_1 a0_0 a0_1_0 a0_1_1 a0_2 a0_3 a0_4 a1_0 a1_1_0 a1_1_1 a1_2 a1_3 a1_4))))))) := by kernel_rfl
theorem J_law05_JvalPuts_9_0_eq (R : Orc) (k : Nat) (w : Bool) (x7 : ByteArray) (x8 : ByteArray) (h4096_0 : Int) (h4096_1 : Int) (h4096_2 : Int) (h4096_3 : ByteArray) (h4096_4 : List FV) (h4096_5 : List FV) (h4097_0 : Int) (h4097_1 : Int) (h4097_2 : Int) (h4097_3 : ByteArray) (h4097_4 : List FV) (h4097_5 : List FV) : J_law05_JvalPuts_9_0 R k w x7 x8 h4096_0 h4096_1 h4096_2 h4096_3 h4096_4 h4096_5 h4097_0 h4097_1 h4097_2 h4097_3 h4097_4 h4097_5 = onR (R N_jval_Put [.fz (FV.ag [(FV.int .i64 h4096_0), (FV.int .i64 h4096_1), (FV.int .i64 h4096_2), (FV.str h4096_3), (FV.sl h4096_4), (FV.sl h4096_5)]), .fz (FV.str x7), .fz (FV.ag [(FV.int .i64 h4097_0), (FV.int .i64 h4097_1), (FV.int .i64 h4097_2), (FV.str h4097_3), (FV.sl h4097_4), (FV.sl h4097_5)])]) fun r4 => when (List.isEmpty r4.2 && allF [.fz] r4.1) (when (FV.fits 6 true (TV.toF (List.getD r4.1 0 TV.em))) (ifB (h4096_0 != 6)
  (jump w (J_law05_JvalPuts_1_0 R k w x7 x8 true h4096_0 h4096_1 h4096_2 h4096_3 h4096_4 h4096_5 h4097_0 h4097_1 h4097_2 h4097_3 h4097_4 h4097_5 (TV.toF (List.getD r4.1 0 TV.em))))
  (jump w (J_law05_JvalPuts_1_0 R k w x7 x8 ((List.length h4096_5 : Int) != (List.length h4096_4 : Int)) h4096_0 h4096_1 h4096_2 h4096_3 h4096_4 h4096_5 h4097_0 h4097_1 h4097_2 h4097_3 h4097_4 h4097_5 (TV.toF (List.getD r4.1 0 TV.em)))))) := by kernel_rfl
theorem J_law05_JvalPuts_1_0_eq (R : Orc) (k : Nat) (w : Bool) (x7 : ByteArray) (x8 : ByteArray) (x54 : Bool) (h4096_0 : Int) (h4096_1 : Int) (h4096_2 : Int) (h4096_3 : ByteArray) (h4096_4 : List FV) (h4096_5 : List FV) (h4097_0 : Int) (h4097_1 : Int) (h4097_2 : Int) (h4097_3 : ByteArray) (h4097_4 : List FV) (h4097_5 : List FV) (h4098 : FV) : J_law05_JvalPuts_1_0 R k w x7 x8 x54 h4096_0 h4096_1 h4096_2 h4096_3 h4096_4 h4096_5 h4097_0 h4097_1 h4097_2 h4097_3 h4097_4 h4097_5 h4098 = ifB x54
  (onR (R N_jval_Get [.fz (FV.ag [(FV.int .i64 h4096_0), (FV.int .i64 h4096_1), (FV.int .i64 h4096_2), (FV.str h4096_3), (FV.sl h4096_4), (FV.sl h4096_5)]), .fz (FV.str x7)]) fun r5 => when (List.isEmpty r5.2 && allF [.fz, .fz] r5.1) (when (FV.isBool (TV.toF (List.getD r5.1 1 TV.em))) (when (FV.fits 6 true (TV.toF (List.getD r5.1 0 TV.em))) (onR (R N_ref05_Same [.fz h4098, .fz (FV.ag [(FV.int .i64 h4096_0), (FV.int .i64 h4096_1), (FV.int .i64 h4096_2), (FV.str h4096_3), (FV.sl h4096_4), (FV.sl h4096_5)])]) fun r6 => when (List.isEmpty r6.2 && allF [.fz] r6.1) (when (FV.isBool (TV.toF (List.getD r6.1 0 TV.em))) (ifB (FV.toBool (TV.toF (List.getD r6.1 0 TV.em)))
   (ifB (!(FV.toBool (TV.toF (List.getD r5.1 1 TV.em))))
    (onR (R N_law05_lives []) fun r7 => when (List.isEmpty r7.2 && allF [.fz] r7.1) (when (FV.isBool (TV.toF (List.getD r7.1 0 TV.em))) (some ([.fz (FV.bool (FV.toBool (TV.toF (List.getD r7.1 0 TV.em))))], []))))
    (some ([.fz (FV.bool false)], [])))
   (some ([.fz (FV.bool false)], []))))))))
  (jump w (J_law05_JvalPuts_7_0 R k w x7 x8 h4096_0 h4096_1 h4096_2 h4096_3 h4096_4 h4096_5 h4097_0 h4097_1 h4097_2 h4097_3 h4097_4 h4097_5 h4098)) := by kernel_rfl
theorem J_law05_JvalPuts_7_0_eq (R : Orc) (k : Nat) (w : Bool) (x7 : ByteArray) (x8 : ByteArray) (h4096_0 : Int) (h4096_1 : Int) (h4096_2 : Int) (h4096_3 : ByteArray) (h4096_4 : List FV) (h4096_5 : List FV) (h4097_0 : Int) (h4097_1 : Int) (h4097_2 : Int) (h4097_3 : ByteArray) (h4097_4 : List FV) (h4097_5 : List FV) (h4098 : FV) : J_law05_JvalPuts_7_0 R k w x7 x8 h4096_0 h4096_1 h4096_2 h4096_3 h4096_4 h4096_5 h4097_0 h4097_1 h4097_2 h4097_3 h4097_4 h4097_5 h4098 = onL (L_law05_JvalPuts_1_0 R k w k x7 x8 1 h4096_0 h4096_1 h4096_2 h4096_3 h4096_4 h4096_5 h4097_0 h4097_1 h4097_2 h4097_3 h4097_4 h4097_5 h4098) (K_law05_JvalPuts_1 R k w) := by kernel_rfl
theorem L_law05_JvalPuts_1_0_eq (R : Orc) (k : Nat) (w : Bool) (n : Nat) (x7 : ByteArray) (x8 : ByteArray) (x12 : Int) (h4096_0 : Int) (h4096_1 : Int) (h4096_2 : Int) (h4096_3 : ByteArray) (h4096_4 : List FV) (h4096_5 : List FV) (h4097_0 : Int) (h4097_1 : Int) (h4097_2 : Int) (h4097_3 : ByteArray) (h4097_4 : List FV) (h4097_5 : List FV) (h4098 : FV) : L_law05_JvalPuts_1_0 R k w (n + 1) x7 x8 x12 h4096_0 h4096_1 h4096_2 h4096_3 h4096_4 h4096_5 h4097_0 h4097_1 h4097_2 h4097_3 h4097_4 h4097_5 h4098 = ifB (decide (x12 < (List.length h4096_5 : Int)))
  (when ((decide (0 ≤ x12)) && (decide (x12 < (List.length h4096_5 : Int)))) (when (FV.fits 1 false (List.getD h4096_5 (Int.toNat x12) FV.nilp)) (when (FV.isStr (List.getD h4096_5 (Int.toNat x12) FV.nilp)) (when ((decide (0 ≤ (IntKind.wrap .i64 (x12 - 1)))) && (decide ((IntKind.wrap .i64 (x12 - 1)) < (List.length h4096_5 : Int)))) (when (FV.fits 1 false (List.getD h4096_5 (Int.toNat (IntKind.wrap .i64 (x12 - 1))) FV.nilp)) (when (FV.isStr (List.getD h4096_5 (Int.toNat (IntKind.wrap .i64 (x12 - 1))) FV.nilp)) (ifB (Op.bytesLess (ByteArray.toList (FV.toStr (List.getD h4096_5 (Int.toNat x12) FV.nilp))) (ByteArray.toList (FV.toStr (List.getD h4096_5 (Int.toNat (IntKind.wrap .i64 (x12 - 1))) FV.nilp))) || ByteArray.toList (FV.toStr (List.getD h4096_5 (Int.toNat x12) FV.nilp)) == ByteArray.toList (FV.toStr (List.getD h4096_5 (Int.toNat (IntKind.wrap .i64 (x12 - 1))) FV.nilp)))
   (onR (R N_law05_lives []) fun r8 => when (List.isEmpty r8.2 && allF [.fz] r8.1) (when (FV.isBool (TV.toF (List.getD r8.1 0 TV.em))) (some (.ret, X_law05_JvalPuts_1_0 (FV.toBool (TV.toF (List.getD r8.1 0 TV.em))) x7 x8 h4096_0 h4096_1 h4096_2 h4096_3 h4096_4 h4096_5 h4097_0 h4097_1 h4097_2 h4097_3 h4097_4 h4097_5 h4098))))
   (L_law05_JvalPuts_1_0 R k w n x7 x8 (IntKind.wrap .i64 (x12 + 1)) h4096_0 h4096_1 h4096_2 h4096_3 h4096_4 h4096_5 h4097_0 h4097_1 h4097_2 h4097_3 h4097_4 h4097_5 h4098))))))))
  (some ((.exit 0), X_law05_JvalPuts_1_1 x7 x8 h4096_0 h4096_1 h4096_2 h4096_3 h4096_4 h4096_5 h4097_0 h4097_1 h4097_2 h4097_3 h4097_4 h4097_5 h4098)) := by kernel_rfl
theorem X_law05_JvalPuts_1_0_eq (R : Orc) (k : Nat) (w : Bool) (x6 : Bool) (x7 : ByteArray) (x8 : ByteArray) (h4096_0 : Int) (h4096_1 : Int) (h4096_2 : Int) (h4096_3 : ByteArray) (h4096_4 : List FV) (h4096_5 : List FV) (h4097_0 : Int) (h4097_1 : Int) (h4097_2 : Int) (h4097_3 : ByteArray) (h4097_4 : List FV) (h4097_5 : List FV) (h4098 : FV) : K_law05_JvalPuts_1 R k w .ret (X_law05_JvalPuts_1_0 x6 x7 x8 h4096_0 h4096_1 h4096_2 h4096_3 h4096_4 h4096_5 h4097_0 h4097_1 h4097_2 h4097_3 h4097_4 h4097_5 h4098) = some ([.fz (FV.bool x6)], []) := by kernel_rfl
theorem X_law05_JvalPuts_1_1_eq (R : Orc) (k : Nat) (w : Bool) (x7 : ByteArray) (x8 : ByteArray) (h4096_0 : Int) (h4096_1 : Int) (h4096_2 : Int) (h4096_3 : ByteArray) (h4096_4 : List FV) (h4096_5 : List FV) (h4097_0 : Int) (h4097_1 : Int) (h4097_2 : Int) (h4097_3 : ByteArray) (h4097_4 : List FV) (h4097_5 : List FV) (h4098 : FV) : K_law05_JvalPuts_1 R k w (.exit 0) (X_law05_JvalPuts_1_1 x7 x8 h4096_0 h4096_1 h4096_2 h4096_3 h4096_4 h4096_5 h4097_0 h4097_1 h4097_2 h4097_3 h4097_4 h4097_5 h4098) = onR (R N_jval_Get [.fz h4098, .fz (FV.str x7)]) fun r9 => when (List.isEmpty r9.2 && allF [.fz, .fz] r9.1) (when (FV.isBool (TV.toF (List.getD r9.1 1 TV.em))) (when (FV.fits 6 true (TV.toF (List.getD r9.1 0 TV.em))) (onR (R N_jval_Get [.fz (FV.ag [(FV.int .i64 h4096_0), (FV.int .i64 h4096_1), (FV.int .i64 h4096_2), (FV.str h4096_3), (FV.sl h4096_4), (FV.sl h4096_5)]), .fz (FV.str x8)]) fun r10 => when (List.isEmpty r10.2 && allF [.fz, .fz] r10.1) (when (FV.isBool (TV.toF (List.getD r10.1 1 TV.em))) (when (FV.fits 6 true (TV.toF (List.getD r10.1 0 TV.em))) (onR (R N_jval_Get [.fz h4098, .fz (FV.str x8)]) fun r11 => when (List.isEmpty r11.2 && allF [.fz, .fz] r11.1) (when (FV.isBool (TV.toF (List.getD r11.1 1 TV.em))) (when (FV.fits 6 true (TV.toF (List.getD r11.1 0 TV.em))) (ifB (!(FV.toBool (TV.toF (List.getD r9.1 1 TV.em))))
  (some ([.fz (FV.bool false)], []))
  (onR (R N_ref05_Same [.fz (TV.toF (List.getD r9.1 0 TV.em)), .fz (FV.ag [(FV.int .i64 h4097_0), (FV.int .i64 h4097_1), (FV.int .i64 h4097_2), (FV.str h4097_3), (FV.sl h4097_4), (FV.sl h4097_5)])]) fun r12 => when (List.isEmpty r12.2 && allF [.fz] r12.1) (when (FV.isBool (TV.toF (List.getD r12.1 0 TV.em))) (ifB (!(FV.toBool (TV.toF (List.getD r12.1 0 TV.em))))
   (some ([.fz (FV.bool false)], []))
   (ifB (!(ByteArray.toList x8 == ByteArray.toList x7))
    (ifB (!((FV.toBool (TV.toF (List.getD r10.1 1 TV.em))) == (FV.toBool (TV.toF (List.getD r11.1 1 TV.em)))))
     (some ([.fz (FV.bool false)], []))
     (onR (R N_ref05_Same [.fz (TV.toF (List.getD r10.1 0 TV.em)), .fz (TV.toF (List.getD r11.1 0 TV.em))]) fun r13 => when (List.isEmpty r13.2 && allF [.fz] r13.1) (when (FV.isBool (TV.toF (List.getD r13.1 0 TV.em))) (ifB (!(FV.toBool (TV.toF (List.getD r13.1 0 TV.em))))
      (some ([.fz (FV.bool false)], []))
      (when (FV.isAg 6 h4098) (when (FV.isSl (FV.cell h4098 5)) (when (FV.isAg 6 h4098) (when (FV.isSl (FV.cell h4098 4)) (ifB ((List.length (FV.toSl (FV.cell h4098 5)) : Int) != (List.length (FV.toSl (FV.cell h4098 4)) : Int))
       (some ([.fz (FV.bool false)], []))
       (jump w (J_law05_JvalPuts_5_0 R k w x7 h4096_0 h4096_1 h4096_2 h4096_3 h4096_4 h4096_5 h4098)))))))))))
    (when (FV.isAg 6 h4098) (when (FV.isSl (FV.cell h4098 5)) (when (FV.isAg 6 h4098) (when (FV.isSl (FV.cell h4098 4)) (ifB ((List.length (FV.toSl (FV.cell h4098 5)) : Int) != (List.length (FV.toSl (FV.cell h4098 4)) : Int))
     (some ([.fz (FV.bool false)], []))
     (jump w (J_law05_JvalPuts_5_0 R k w x7 h4096_0 h4096_1 h4096_2 h4096_3 h4096_4 h4096_5 h4098)))))))))))))))))))) := by kernel_rfl
theorem J_law05_JvalPuts_5_0_eq (R : Orc) (k : Nat) (w : Bool) (x7 : ByteArray) (h4096_0 : Int) (h4096_1 : Int) (h4096_2 : Int) (h4096_3 : ByteArray) (h4096_4 : List FV) (h4096_5 : List FV) (h4097 : FV) : J_law05_JvalPuts_5_0 R k w x7 h4096_0 h4096_1 h4096_2 h4096_3 h4096_4 h4096_5 h4097 = onR (R N_jval_Get [.fz (FV.ag [(FV.int .i64 h4096_0), (FV.int .i64 h4096_1), (FV.int .i64 h4096_2), (FV.str h4096_3), (FV.sl h4096_4), (FV.sl h4096_5)]), .fz (FV.str x7)]) fun r14 => when (List.isEmpty r14.2 && allF [.fz, .fz] r14.1) (when (FV.isBool (TV.toF (List.getD r14.1 1 TV.em))) (when (FV.fits 6 true (TV.toF (List.getD r14.1 0 TV.em))) (ifB (FV.toBool (TV.toF (List.getD r14.1 1 TV.em)))
  (jump w (J_law05_JvalPuts_4_0 R k w x7 (IntKind.wrap .i64 ((IntKind.wrap .i64 ((List.length h4096_5 : Int) + 1)) - 1)) h4096_0 h4096_1 h4096_2 h4096_3 h4096_4 h4096_5 h4097))
  (jump w (J_law05_JvalPuts_4_0 R k w x7 (IntKind.wrap .i64 ((List.length h4096_5 : Int) + 1)) h4096_0 h4096_1 h4096_2 h4096_3 h4096_4 h4096_5 h4097))))) := by kernel_rfl
theorem J_law05_JvalPuts_4_0_eq (R : Orc) (k : Nat) (w : Bool) (x7 : ByteArray) (x21 : Int) (h4096_0 : Int) (h4096_1 : Int) (h4096_2 : Int) (h4096_3 : ByteArray) (h4096_4 : List FV) (h4096_5 : List FV) (h4097 : FV) : J_law05_JvalPuts_4_0 R k w x7 x21 h4096_0 h4096_1 h4096_2 h4096_3 h4096_4 h4096_5 h4097 = onL (L_law05_JvalPuts_2_0 R k w k x7 x21 1 h4096_0 h4096_1 h4096_2 h4096_3 h4096_4 h4096_5 h4097) (K_law05_JvalPuts_2 R k w) := by kernel_rfl
theorem L_law05_JvalPuts_2_0_eq (R : Orc) (k : Nat) (w : Bool) (n : Nat) (x7 : ByteArray) (x21 : Int) (x22 : Int) (h4096_0 : Int) (h4096_1 : Int) (h4096_2 : Int) (h4096_3 : ByteArray) (h4096_4 : List FV) (h4096_5 : List FV) (h4097 : FV) : L_law05_JvalPuts_2_0 R k w (n + 1) x7 x21 x22 h4096_0 h4096_1 h4096_2 h4096_3 h4096_4 h4096_5 h4097 = when (FV.isAg 6 h4097) (when (FV.isSl (FV.cell h4097 5)) (ifB (decide (x22 < (List.length (FV.toSl (FV.cell h4097 5)) : Int)))
  (when (FV.isAg 6 h4097) (when (FV.isSl (FV.cell h4097 5)) (when ((decide (0 ≤ x22)) && (decide (x22 < (List.length (FV.toSl (FV.cell h4097 5)) : Int)))) (when (FV.fits 1 false (List.getD (FV.toSl (FV.cell h4097 5)) (Int.toNat x22) FV.nilp)) (when (FV.isStr (List.getD (FV.toSl (FV.cell h4097 5)) (Int.toNat x22) FV.nilp)) (when (FV.isAg 6 h4097) (when (FV.isSl (FV.cell h4097 5)) (when ((decide (0 ≤ (IntKind.wrap .i64 (x22 - 1)))) && (decide ((IntKind.wrap .i64 (x22 - 1)) < (List.length (FV.toSl (FV.cell h4097 5)) : Int)))) (when (FV.fits 1 false (List.getD (FV.toSl (FV.cell h4097 5)) (Int.toNat (IntKind.wrap .i64 (x22 - 1))) FV.nilp)) (when (FV.isStr (List.getD (FV.toSl (FV.cell h4097 5)) (Int.toNat (IntKind.wrap .i64 (x22 - 1))) FV.nilp)) (ifB (Op.bytesLess (ByteArray.toList (FV.toStr (List.getD (FV.toSl (FV.cell h4097 5)) (Int.toNat x22) FV.nilp))) (ByteArray.toList (FV.toStr (List.getD (FV.toSl (FV.cell h4097 5)) (Int.toNat (IntKind.wrap .i64 (x22 - 1))) FV.nilp))) || ByteArray.toList (FV.toStr (List.getD (FV.toSl (FV.cell h4097 5)) (Int.toNat x22) FV.nilp)) == ByteArray.toList (FV.toStr (List.getD (FV.toSl (FV.cell h4097 5)) (Int.toNat (IntKind.wrap .i64 (x22 - 1))) FV.nilp)))
   (some (.ret, X_law05_JvalPuts_2_0 false x7 x21 h4096_0 h4096_1 h4096_2 h4096_3 h4096_4 h4096_5 h4097))
   (L_law05_JvalPuts_2_0 R k w n x7 x21 (IntKind.wrap .i64 (x22 + 1)) h4096_0 h4096_1 h4096_2 h4096_3 h4096_4 h4096_5 h4097))))))))))))
  (some ((.exit 2), X_law05_JvalPuts_2_1 x7 x21 h4096_0 h4096_1 h4096_2 h4096_3 h4096_4 h4096_5 h4097)))) := by kernel_rfl
theorem X_law05_JvalPuts_2_0_eq (R : Orc) (k : Nat) (w : Bool) (x6 : Bool) (x7 : ByteArray) (x21 : Int) (h4096_0 : Int) (h4096_1 : Int) (h4096_2 : Int) (h4096_3 : ByteArray) (h4096_4 : List FV) (h4096_5 : List FV) (h4097 : FV) : K_law05_JvalPuts_2 R k w .ret (X_law05_JvalPuts_2_0 x6 x7 x21 h4096_0 h4096_1 h4096_2 h4096_3 h4096_4 h4096_5 h4097) = some ([.fz (FV.bool x6)], []) := by kernel_rfl
theorem X_law05_JvalPuts_2_1_eq (R : Orc) (k : Nat) (w : Bool) (x7 : ByteArray) (x21 : Int) (h4096_0 : Int) (h4096_1 : Int) (h4096_2 : Int) (h4096_3 : ByteArray) (h4096_4 : List FV) (h4096_5 : List FV) (h4097 : FV) : K_law05_JvalPuts_2 R k w (.exit 2) (X_law05_JvalPuts_2_1 x7 x21 h4096_0 h4096_1 h4096_2 h4096_3 h4096_4 h4096_5 h4097) = onL (L_law05_JvalPuts_3_0 R k w k x7 x21 0 h4096_0 h4096_1 h4096_2 h4096_3 h4096_4 h4096_5 h4097) (K_law05_JvalPuts_3 R k w) := by kernel_rfl
theorem L_law05_JvalPuts_3_0_eq (R : Orc) (k : Nat) (w : Bool) (n : Nat) (x7 : ByteArray) (x21 : Int) (x23 : Int) (h4096_0 : Int) (h4096_1 : Int) (h4096_2 : Int) (h4096_3 : ByteArray) (h4096_4 : List FV) (h4096_5 : List FV) (h4097 : FV) : L_law05_JvalPuts_3_0 R k w (n + 1) x7 x21 x23 h4096_0 h4096_1 h4096_2 h4096_3 h4096_4 h4096_5 h4097 = ifB (decide (x23 < (List.length h4096_5 : Int)))
  (when ((decide (0 ≤ x23)) && (decide (x23 < (List.length h4096_5 : Int)))) (when (FV.fits 1 false (List.getD h4096_5 (Int.toNat x23) FV.nilp)) (when (FV.isStr (List.getD h4096_5 (Int.toNat x23) FV.nilp)) (onR (R N_jval_Get [.fz h4097, .fz (FV.str (FV.toStr (List.getD h4096_5 (Int.toNat x23) FV.nilp)))]) fun r15 => when (List.isEmpty r15.2 && allF [.fz, .fz] r15.1) (when (FV.isBool (TV.toF (List.getD r15.1 1 TV.em))) (when (FV.fits 6 true (TV.toF (List.getD r15.1 0 TV.em))) (ifB (!(FV.toBool (TV.toF (List.getD r15.1 1 TV.em))))
   (some (.ret, X_law05_JvalPuts_3_0 false x21 h4097))
   (when ((decide (0 ≤ x23)) && (decide (x23 < (List.length h4096_5 : Int)))) (when (FV.fits 1 false (List.getD h4096_5 (Int.toNat x23) FV.nilp)) (when (FV.isStr (List.getD h4096_5 (Int.toNat x23) FV.nilp)) (ifB (!(ByteArray.toList (FV.toStr (List.getD h4096_5 (Int.toNat x23) FV.nilp)) == ByteArray.toList x7))
    (when ((decide (0 ≤ x23)) && (decide (x23 < (List.length h4096_4 : Int)))) (when (FV.fits 6 true (List.getD h4096_4 (Int.toNat x23) FV.nilp)) (onR (R N_ref05_Same [.fz (TV.toF (List.getD r15.1 0 TV.em)), .fz (List.getD h4096_4 (Int.toNat x23) FV.nilp)]) fun r16 => when (List.isEmpty r16.2 && allF [.fz] r16.1) (when (FV.isBool (TV.toF (List.getD r16.1 0 TV.em))) (ifB (!(FV.toBool (TV.toF (List.getD r16.1 0 TV.em))))
     (some (.ret, X_law05_JvalPuts_3_0 false x21 h4097))
     (L_law05_JvalPuts_3_0 R k w n x7 x21 (IntKind.wrap .i64 (x23 + 1)) h4096_0 h4096_1 h4096_2 h4096_3 h4096_4 h4096_5 h4097))))))
    (L_law05_JvalPuts_3_0 R k w n x7 x21 (IntKind.wrap .i64 (x23 + 1)) h4096_0 h4096_1 h4096_2 h4096_3 h4096_4 h4096_5 h4097))))))))))))
  (some ((.exit 4), X_law05_JvalPuts_3_1 x21 h4097)) := by kernel_rfl
theorem X_law05_JvalPuts_3_0_eq (R : Orc) (k : Nat) (w : Bool) (x6 : Bool) (x21 : Int) (h4096 : FV) : K_law05_JvalPuts_3 R k w .ret (X_law05_JvalPuts_3_0 x6 x21 h4096) = some ([.fz (FV.bool x6)], []) := by kernel_rfl
theorem X_law05_JvalPuts_3_1_eq (R : Orc) (k : Nat) (w : Bool) (x21 : Int) (h4096 : FV) : K_law05_JvalPuts_3 R k w (.exit 4) (X_law05_JvalPuts_3_1 x21 h4096) = when (FV.isAg 6 h4096) (when (FV.isSl (FV.cell h4096 5)) (ifB ((List.length (FV.toSl (FV.cell h4096 5)) : Int) == x21)
  (when (FV.isAg 6 h4096) (when (FV.isInt .i64 (FV.cell h4096 0)) (ifB ((FV.toInt (FV.cell h4096 0)) == 6)
   (onR (R N_law05_lives []) fun r17 => when (List.isEmpty r17.2 && allF [.fz] r17.1) (when (FV.isBool (TV.toF (List.getD r17.1 0 TV.em))) (some ([.fz (FV.bool (FV.toBool (TV.toF (List.getD r17.1 0 TV.em))))], []))))
   (some ([.fz (FV.bool false)], [])))))
  (some ([.fz (FV.bool false)], [])))) := by kernel_rfl
/-! keyhole/keyholelaw05.JvalSimple -/
def A_law05_JvalSimple_j1 : ACode := .cond (.t 20) (.region [⟨(some 21), .mov (.t 7), none, none⟩,
  ⟨(some 22), .mov (.t 0), none, some (.int .i64)⟩,
  ⟨(some 23), .iadr (.sl 1 false) (.t 21) (.t 22), none, none⟩,
  ⟨(some 24), .load 1 false (.t 23), none, some .str⟩,
  ⟨(some 8), .mov (.t 24), none, some .str⟩])
 (.skip)
def A_law05_JvalSimple_j2 : ACode := .seq (.region [⟨(some 60), .mov (.t 2), none, some .str⟩,
  ⟨(some 61), .call N_jval_Text [((.t 60), .fz)] [.fz], none, none⟩,
  ⟨(some 62), .mov (.t 2), none, some .str⟩,
  ⟨(some 63), .call N_jval_Wrong [((.t 62), .fz)] [.fz], none, none⟩,
  ⟨(some 11), .alloc 6 true (.ag [.fz (.int .i64 0), .fz (.int .i64 0), .fz (.int .i64 0), .fz (.str ⟨#[]⟩), .nils, .nils]), none, none⟩,
  ⟨(some 12), .alloc 6 true (.ag [.fz (.int .i64 0), .fz (.int .i64 0), .fz (.int .i64 0), .fz (.str ⟨#[]⟩), .nils, .nils]), none, none⟩,
  ⟨none, .store 6 true (.t 11) (.t 61), none, none⟩,
  ⟨none, .store 6 true (.t 12) (.t 63), none, none⟩])
 (.seq (.region [⟨(some 64), .load 6 true (.t 9), none, none⟩,
   ⟨(some 65), .load 6 true (.t 11), none, none⟩,
   ⟨(some 66), .buildSl 6 true 2 (.ag [.int .i64 0, .int .i64 0, .int .i64 0, .str ⟨#[]⟩, .sl [], .sl []]) [(0, (.t 64)), (1, (.t 65))], none, none⟩,
   ⟨(some 67), .call N_jval_List [((.t 66), .fz)] [.fz], none, none⟩,
   ⟨(some 13), .alloc 6 true (.ag [.fz (.int .i64 0), .fz (.int .i64 0), .fz (.int .i64 0), .fz (.str ⟨#[]⟩), .nils, .nils]), none, none⟩,
   ⟨none, .store 6 true (.t 13) (.t 67), none, none⟩])
  (.seq (.draws [⟨⟨(some 68), .mov (.t 0), none, some (.int .i64)⟩, []⟩,
    ⟨⟨(some 69), .call N_jval_Name [((.t 68), .fz)] [.fz], none, some .str⟩, [0]⟩,
    ⟨⟨(some 70), .mov (.t 8), none, some .str⟩, []⟩,
    ⟨⟨(some 71), .binS .eql (.t 69) (.t 70), none, some .bool⟩, [1, 2]⟩,
    ⟨⟨(some 72), .mov (.t 71), none, some .bool⟩, [3, 1]⟩,
    ⟨⟨(some 73), .fadr 0 (.t 11), (some (72, true)), none⟩, [4]⟩,
    ⟨⟨(some 74), .load 1 false (.t 73), (some (72, true)), some (.int .i64)⟩, [5, 4]⟩,
    ⟨⟨(some 75), .binI .eql .i64 (.t 74) (.c (.fz (.int .i64 4))), (some (72, true)), some .bool⟩, [6, 4]⟩,
    ⟨⟨(some 76), .pick (.t 72) (.t 75) (.c (.fz (.bool false))), none, some .bool⟩, [4, 7]⟩,
    ⟨⟨(some 77), .mov (.t 76), none, some .bool⟩, [8, 4]⟩,
    ⟨⟨(some 78), .fadr 3 (.t 11), (some (77, true)), none⟩, [9]⟩,
    ⟨⟨(some 79), .load 1 false (.t 78), (some (77, true)), some .str⟩, [10, 9]⟩,
    ⟨⟨(some 80), .mov (.t 2), (some (77, true)), some .str⟩, [9]⟩,
    ⟨⟨(some 81), .binS .eql (.t 79) (.t 80), (some (77, true)), some .bool⟩, [11, 12, 9]⟩,
    ⟨⟨(some 82), .pick (.t 77) (.t 81) (.c (.fz (.bool false))), none, some .bool⟩, [9, 13]⟩,
    ⟨⟨(some 83), .mov (.t 82), none, some .bool⟩, [14, 9]⟩,
    ⟨⟨(some 84), .fadr 0 (.t 12), (some (83, true)), none⟩, [15]⟩,
    ⟨⟨(some 85), .load 1 false (.t 84), (some (83, true)), some (.int .i64)⟩, [16, 15]⟩,
    ⟨⟨(some 86), .binI .eql .i64 (.t 85) (.c (.fz (.int .i64 7))), (some (83, true)), some .bool⟩, [17, 15]⟩,
    ⟨⟨(some 87), .pick (.t 83) (.t 86) (.c (.fz (.bool false))), none, some .bool⟩, [15, 18]⟩,
    ⟨⟨(some 88), .mov (.t 87), none, some .bool⟩, [19, 15]⟩,
    ⟨⟨(some 89), .fadr 3 (.t 12), (some (88, true)), none⟩, [20]⟩,
    ⟨⟨(some 90), .load 1 false (.t 89), (some (88, true)), some .str⟩, [21, 20]⟩,
    ⟨⟨(some 91), .mov (.t 2), (some (88, true)), some .str⟩, [20]⟩,
    ⟨⟨(some 92), .binS .eql (.t 90) (.t 91), (some (88, true)), some .bool⟩, [22, 23, 20]⟩,
    ⟨⟨(some 93), .pick (.t 88) (.t 92) (.c (.fz (.bool false))), none, some .bool⟩, [20, 24]⟩,
    ⟨⟨(some 94), .mov (.t 93), none, some .bool⟩, [25, 20]⟩,
    ⟨⟨(some 95), .call N_jval_Truth [((.c (.fz (.bool true))), .fz)] [.fz], (some (94, true)), none⟩, [26, 26]⟩,
    ⟨⟨(some 96), .field 6 1 false 0 (.t 95), (some (94, true)), some (.int .i64)⟩, [27, 26]⟩,
    ⟨⟨(some 97), .binI .eql .i64 (.t 96) (.c (.fz (.int .i64 2))), (some (94, true)), some .bool⟩, [28, 26]⟩,
    ⟨⟨(some 98), .pick (.t 94) (.t 97) (.c (.fz (.bool false))), none, some .bool⟩, [26, 29]⟩,
    ⟨⟨(some 99), .mov (.t 98), none, some .bool⟩, [30, 27]⟩,
    ⟨⟨(some 100), .call N_jval_Truth [((.c (.fz (.bool false))), .fz)] [.fz], (some (99, true)), none⟩, [31, 31]⟩,
    ⟨⟨(some 101), .field 6 1 false 0 (.t 100), (some (99, true)), some (.int .i64)⟩, [32, 31]⟩,
    ⟨⟨(some 102), .binI .eql .i64 (.t 101) (.c (.fz (.int .i64 1))), (some (99, true)), some .bool⟩, [33, 31]⟩,
    ⟨⟨(some 103), .pick (.t 99) (.t 102) (.c (.fz (.bool false))), none, some .bool⟩, [31, 34]⟩,
    ⟨⟨(some 104), .mov (.t 103), none, some .bool⟩, [35, 32]⟩,
    ⟨⟨(some 105), .fadr 0 (.t 13), (some (104, true)), none⟩, [36]⟩,
    ⟨⟨(some 106), .load 1 false (.t 105), (some (104, true)), some (.int .i64)⟩, [37, 36]⟩,
    ⟨⟨(some 107), .binI .eql .i64 (.t 106) (.c (.fz (.int .i64 5))), (some (104, true)), some .bool⟩, [38, 36]⟩,
    ⟨⟨(some 108), .pick (.t 104) (.t 107) (.c (.fz (.bool false))), none, some .bool⟩, [36, 39]⟩,
    ⟨⟨(some 109), .mov (.t 108), none, some .bool⟩, [40, 36]⟩,
    ⟨⟨(some 110), .fadr 4 (.t 13), (some (109, true)), none⟩, [41]⟩,
    ⟨⟨(some 111), .load 1 false (.t 110), (some (109, true)), none⟩, [42, 41]⟩,
    ⟨⟨(some 112), .len (.sl 6 true) (.t 111), (some (109, true)), some (.int .i64)⟩, [43, 41]⟩,
    ⟨⟨(some 113), .binI .eql .i64 (.t 112) (.c (.fz (.int .i64 2))), (some (109, true)), some .bool⟩, [44, 41]⟩,
    ⟨⟨(some 114), .pick (.t 109) (.t 113) (.c (.fz (.bool false))), none, some .bool⟩, [41, 45]⟩,
    ⟨⟨(some 115), .mov (.t 114), none, some .bool⟩, [46, 41]⟩,
    ⟨⟨(some 116), .fadr 4 (.t 13), (some (115, true)), none⟩, [47]⟩,
    ⟨⟨(some 117), .load 1 false (.t 116), (some (115, true)), none⟩, [48, 47]⟩,
    ⟨⟨(some 118), .iadr (.sl 6 true) (.t 117) (.c (.fz (.int .i64 1))), (some (115, true)), none⟩, [49, 47]⟩,
    ⟨⟨(some 119), .load 6 true (.t 118), (some (115, true)), none⟩, [50, 47]⟩,
    ⟨⟨(some 120), .load 6 true (.t 11), (some (115, true)), none⟩, [47]⟩,
    ⟨⟨(some 121), .call N_ref05_Same [((.t 119), .fz), ((.t 120), .fz)] [.fz], (some (115, true)), some .bool⟩, [51, 52, 47, 47]⟩,
    ⟨⟨(some 122), .pick (.t 115) (.t 121) (.c (.fz (.bool false))), none, some .bool⟩, [47, 53]⟩,
    ⟨⟨(some 123), .mov (.t 122), none, some .bool⟩, [54, 53]⟩,
    ⟨⟨(some 124), .call N_jval_List [((.c (.nils)), .fz)] [.fz], (some (123, true)), none⟩, [55, 55]⟩,
    ⟨⟨(some 125), .field 6 1 false 4 (.t 124), (some (123, true)), none⟩, [56, 55]⟩,
    ⟨⟨(some 126), .len (.sl 6 true) (.t 125), (some (123, true)), some (.int .i64)⟩, [57, 55]⟩,
    ⟨⟨(some 127), .binI .eql .i64 (.t 126) (.c (.fz (.int .i64 0))), (some (123, true)), some .bool⟩, [58, 55]⟩,
    ⟨⟨(some 128), .pick (.t 123) (.t 127) (.c (.fz (.bool false))), none, some .bool⟩, [55, 59]⟩,
    ⟨⟨(some 129), .mov (.t 128), none, some .bool⟩, [60, 56]⟩,
    ⟨⟨(some 130), .call N_law05_lives [] [.fz], (some (129, true)), some .bool⟩, [61, 61]⟩,
    ⟨⟨(some 131), .pick (.t 129) (.t 130) (.c (.fz (.bool false))), none, some .bool⟩, [61, 62]⟩,
    ⟨⟨(some 6), .mov (.t 131), none, some .bool⟩, [63, 62, 0, 1, 2, 3, 4, 5, 6, 7, 8, 9, 10, 11, 12, 13, 14, 15, 16, 17, 18, 19, 20, 21, 22, 23, 24, 25, 26, 27, 28, 29, 30, 31, 32, 33, 34, 35, 36, 37, 38, 39, 40, 41, 42, 43, 44, 45, 46, 47, 48, 49, 50, 51, 52, 53, 54, 55, 56, 57, 58, 59, 60, 61, 62, 63]⟩])
   (.ret)))
def A_law05_JvalSimple_j3 : ACode := .seq (.seq (.region [⟨(some 33), .mov (.t 10), none, some .bool⟩,
   ⟨(some 34), .mov (.t 33), none, some .bool⟩,
   ⟨(some 35), .fadr 0 (.t 9), (some (34, true)), none⟩,
   ⟨(some 36), .load 1 false (.t 35), (some (34, true)), some (.int .i64)⟩,
   ⟨(some 37), .binI .neq .i64 (.t 36) (.c (.fz (.int .i64 3))), (some (34, true)), some .bool⟩,
   ⟨(some 38), .mov (.t 37), (some (34, true)), some .bool⟩,
   ⟨(some 39), .fadr 1 (.t 9), (some (38, false)), none⟩,
   ⟨(some 40), .load 2 true (.t 39), (some (38, false)), none⟩,
   ⟨(some 41), .mov (.t 1), (some (38, false)), some (.int .i64)⟩,
   ⟨(some 42), .build 2 [.fz (.int .i64 0), .fz (.int .i64 0)] [(0, 1, false, (.t 41))], (some (38, false)), none⟩,
   ⟨(some 43), .eqA true [.int .i64, .int .i64] (.t 40) (.t 42), (some (38, false)), some .bool⟩,
   ⟨(some 44), .pick (.t 38) (.c (.fz (.bool true))) (.t 43), (some (34, true)), some .bool⟩,
   ⟨(some 45), .pick (.t 34) (.t 44) (.c (.fz (.bool false))), none, some .bool⟩,
   ⟨(some 46), .mov (.t 45), none, some .bool⟩,
   ⟨(some 47), .mov (.t 10), (some (46, false)), some .bool⟩,
   ⟨(some 48), .notB (.t 47), (some (46, false)), some .bool⟩,
   ⟨(some 49), .mov (.t 48), (some (46, false)), some .bool⟩,
   ⟨(some 50), .fadr 0 (.t 9), (some (49, true)), none⟩,
   ⟨(some 51), .load 1 false (.t 50), (some (49, true)), some (.int .i64)⟩,
   ⟨(some 52), .binI .neq .i64 (.t 51) (.c (.fz (.int .i64 7))), (some (49, true)), some .bool⟩,
   ⟨(some 53), .mov (.t 52), (some (49, true)), some .bool⟩,
   ⟨(some 54), .fadr 3 (.t 9), (some (53, false)), none⟩,
   ⟨(some 55), .load 1 false (.t 54), (some (53, false)), some .str⟩,
   ⟨(some 56), .binS .neq (.t 55) (.c (.fz (.str ⟨#[110, 117, 109, 98, 101, 114]⟩))), (some (53, false)), some .bool⟩,
   ⟨(some 57), .pick (.t 53) (.c (.fz (.bool true))) (.t 56), (some (49, true)), some .bool⟩,
   ⟨(some 58), .pick (.t 49) (.t 57) (.c (.fz (.bool false))), (some (46, false)), some .bool⟩,
   ⟨(some 59), .pick (.t 46) (.c (.fz (.bool true))) (.t 58), none, some .bool⟩])
  (.cond (.t 59) (.seq (.region [⟨(some 6), .mov (.c (.fz (.bool false))), none, some .bool⟩])
    (.ret))
   (.skip)))
 (.trim [0, 2, 8, 9] A_law05_JvalSimple_j2)
def A_law05_JvalSimple_j4 : ACode := .seq (.region [⟨(some 25), .mov (.t 1), none, some (.int .i64)⟩,
  ⟨(some 26), .call N_jval_Int [((.t 25), .fz)] [.fz], none, none⟩,
  ⟨(some 9), .alloc 6 true (.ag [.fz (.int .i64 0), .fz (.int .i64 0), .fz (.int .i64 0), .fz (.str ⟨#[]⟩), .nils, .nils]), none, none⟩,
  ⟨none, .store 6 true (.t 9) (.t 26), none, none⟩])
 (.seq (.region [⟨(some 27), .mov (.t 1), none, some (.int .i64)⟩,
   ⟨(some 28), .binI .lss .i64 (.t 27) (.c (.fz (.int .i64 1000000000000000))), none, some .bool⟩,
   ⟨(some 29), .mov (.t 28), none, some .bool⟩,
   ⟨(some 30), .mov (.t 1), (some (29, true)), some (.int .i64)⟩,
   ⟨(some 31), .binI .gtr .i64 (.t 30) (.c (.fz (.int .i64 (-1000000000000000)))), (some (29, true)), some .bool⟩,
   ⟨(some 32), .pick (.t 29) (.t 31) (.c (.fz (.bool false))), none, some .bool⟩,
   ⟨(some 10), .mov (.t 32), none, some .bool⟩])
  (.trim [0, 1, 2, 8, 9, 10] A_law05_JvalSimple_j3))
def A_law05_JvalSimple_s5 : ACode := .trim [0, 1, 2, 8] A_law05_JvalSimple_j4
def A_law05_JvalSimple : AFunc := ⟨3, [(.tmp 6, .fz)], .seq (.region [⟨(some 6), .mov (.c (.fz (.bool false))), none, some .bool⟩])
 (.seq (.region [⟨(some 14), .buildSl 1 false 8 (.str ⟨#[]⟩) [(0, (.c (.fz (.str ⟨#[110, 117, 108, 108]⟩)))), (1, (.c (.fz (.str ⟨#[98, 111, 111, 108, 101, 97, 110]⟩)))), (2, (.c (.fz (.str ⟨#[98, 111, 111, 108, 101, 97, 110]⟩)))), (3, (.c (.fz (.str ⟨#[110, 117, 109, 98, 101, 114]⟩)))), (4, (.c (.fz (.str ⟨#[115, 116, 114, 105, 110, 103]⟩)))), (5, (.c (.fz (.str ⟨#[97, 114, 114, 97, 121]⟩)))), (6, (.c (.fz (.str ⟨#[111, 98, 106, 101, 99, 116]⟩)))), (7, (.c (.fz (.str ⟨#[101, 114, 114, 111, 114]⟩))))], none, none⟩,
   ⟨(some 7), .mov (.t 14), none, none⟩])
  (.seq (.region [⟨(some 8), .mov (.c (.fz (.str ⟨#[]⟩))), none, some .str⟩])
   (.seq (.seq (.region [⟨(some 15), .mov (.t 0), none, some (.int .i64)⟩,
      ⟨(some 16), .binI .geq .i64 (.t 15) (.c (.fz (.int .i64 0))), none, some .bool⟩,
      ⟨(some 17), .mov (.t 16), none, some .bool⟩,
      ⟨(some 18), .mov (.t 0), (some (17, true)), some (.int .i64)⟩,
      ⟨(some 19), .binI .lss .i64 (.t 18) (.c (.fz (.int .i64 8))), (some (17, true)), some .bool⟩,
      ⟨(some 20), .pick (.t 17) (.t 19) (.c (.fz (.bool false))), none, some .bool⟩])
     (.trim [0, 1, 2, 7, 8, 20] A_law05_JvalSimple_j1))
    A_law05_JvalSimple_s5)))⟩
def J_law05_JvalSimple_1_0 (R : Orc) (k : Nat) (w : Bool) (x0 : Int) (x1 : Int) (x2 : ByteArray) (x8 : ByteArray) (x20 : Bool) (h4096 : List FV) := execL R k w [] A_law05_JvalSimple_j1 Ans ⟨[(0, .fz (FV.int .i64 x0)), (1, .fz (FV.int .i64 x1)), (2, .fz (FV.str x2)), (7, .rw 4096), (8, .fz (FV.str x8)), (20, .fz (FV.bool x20))], [(4095, .dead), (4096, .row 1 false h4096)]⟩ (kSeq R k w [] A_law05_JvalSimple_s5 (kFin R [(.tmp 6, .fz)] []))
def J_law05_JvalSimple_4_0 (R : Orc) (k : Nat) (w : Bool) (x0 : Int) (x1 : Int) (x2 : ByteArray) (x8 : ByteArray) := execL R k w [] A_law05_JvalSimple_j4 Ans ⟨[(0, .fz (FV.int .i64 x0)), (1, .fz (FV.int .i64 x1)), (2, .fz (FV.str x2)), (8, .fz (FV.str x8))], [(4095, .dead)]⟩ (kFin R [(.tmp 6, .fz)] [])
def J_law05_JvalSimple_3_0 (R : Orc) (k : Nat) (w : Bool) (x0 : Int) (x1 : Int) (x2 : ByteArray) (x8 : ByteArray) (x10 : Bool) (h4096 : FV) := execL R k w [] A_law05_JvalSimple_j3 Ans ⟨[(0, .fz (FV.int .i64 x0)), (1, .fz (FV.int .i64 x1)), (2, .fz (FV.str x2)), (8, .fz (FV.str x8)), (9, .ptr 4096 0 0), (10, .fz (FV.bool x10))], [(4095, .dead), (4096, .var 6 true (.fz h4096))]⟩ (kFin R [(.tmp 6, .fz)] [])
def J_law05_JvalSimple_2_0 (R : Orc) (k : Nat) (w : Bool) (x0 : Int) (x2 : ByteArray) (x8 : ByteArray) (h4096 : FV) := execL R k w [] A_law05_JvalSimple_j2 Ans ⟨[(0, .fz (FV.int .i64 x0)), (2, .fz (FV.str x2)), (8, .fz (FV.str x8)), (9, .ptr 4096 0 0)], [(4095, .dead), (4096, .var 6 true (.fz h4096))]⟩ (kFin R [(.tmp 6, .fz)] [])
theorem E_law05_JvalSimple (R : Orc) (k : Nat) (w : Bool) (a0 : Int) (a1 : Int) (a2 : ByteArray) : callL R k w A_law05_JvalSimple [.fz (FV.int .i64 a0), .fz (FV.int .i64 a1), .fz (FV.str a2)] = ifB (decide (a0 ≥ 0))
  (jump w (J_law05_JvalSimple_1_0 R k w a0 a1 a2 (⟨#[]⟩ : ByteArray) (decide (a0 < 8)) [(FV.str (⟨#[110, 117, 108, 108]⟩ : ByteArray)), (FV.str (⟨#[98, 111, 111, 108, 101, 97, 110]⟩ : ByteArray)), (FV.str (⟨#[98, 111, 111, 108, 101, 97, 110]⟩ : ByteArray)), (FV.str (⟨#[110, 117, 109, 98, 101, 114]⟩ : ByteArray)), (FV.str (⟨#[115, 116, 114, 105, 110, 103]⟩ : ByteArray)), (FV.str (⟨#[97, 114, 114, 97, 121]⟩ : ByteArray)), (FV.str (⟨#[111, 98, 106, 101, 99, 116]⟩ : ByteArray)), (FV.str (⟨#[101, 114, 114, 111, 114]⟩ : ByteArray))]))
  (jump w (J_law05_JvalSimple_1_0 R k w a0 a1 a2 (⟨#[]⟩ : ByteArray) false [(FV.str (⟨#[110, 117, 108, 108]⟩ : ByteArray)), (FV.str (⟨#[98, 111, 111, 108, 101, 97, 110]⟩ : ByteArray)), (FV.str (⟨#[98, 111, 111, 108, 101, 97, 110]⟩ : ByteArray)), (FV.str (⟨#[110, 117, 109, 98, 101, 114]⟩ : ByteArray)), (FV.str (⟨#[115, 116, 114, 105, 110, 103]⟩ : ByteArray)), (FV.str (⟨#[97, 114, 114, 97, 121]⟩ : ByteArray)), (FV.str (⟨#[111, 98, 106, 101, 99, 116]⟩ : ByteArray)), (FV.str (⟨#[101, 114, 114, 111, 114]⟩ : ByteArray))])) := by kernel_rfl
theorem J_law05_JvalSimple_1_0_eq (R : Orc) (k : Nat) (w : Bool) (x0 : Int) (x1 : Int) (x2 : ByteArray) (x8 : ByteArray) (x20 : Bool) (h4096 : List FV) : J_law05_JvalSimple_1_0 R k w x0 x1 x2 x8 x20 h4096 = ifB x20
  (when ((decide (0 ≤ x0)) && (decide (x0 < (List.length h4096 : Int)))) (when (Nat.blt (Int.toNat x0) (List.length h4096)) (when (FV.isStr (List.getD h4096 (Int.toNat x0) FV.nilp)) (jump w (J_law05_JvalSimple_4_0 R k w x0 x1 x2 (FV.toStr (List.getD h4096 (Int.toNat x0) FV.nilp)))))))
  (jump w (J_law05_JvalSimple_4_0 R k w x0 x1 x2 x8)) := by kernel_rfl
theorem J_law05_JvalSimple_4_0_eq (R : Orc) (k : Nat) (w : Bool) (x0 : Int) (x1 : Int) (x2 : ByteArray) (x8 : ByteArray) : J_law05_JvalSimple_4_0 R k w x0 x1 x2 x8 = onR (R N_jval_Int [.fz (FV.int .i64 x1)]) fun r0 => when (List.isEmpty r0.2 && allF [.fz] r0.1) (when (FV.fits 6 true (TV.toF (List.getD r0.1 0 TV.em))) (ifB (decide (x1 < 1000000000000000))
  (jump w (J_law05_JvalSimple_3_0 R k w x0 x1 x2 x8 (decide (x1 > (-1000000000000000))) (TV.toF (List.getD r0.1 0 TV.em))))
  (jump w (J_law05_JvalSimple_3_0 R k w x0 x1 x2 x8 false (TV.toF (List.getD r0.1 0 TV.em)))))) := by kernel_rfl
theorem J_law05_JvalSimple_3_0_eq (R : Orc) (k : Nat) (w : Bool) (x0 : Int) (x1 : Int) (x2 : ByteArray) (x8 : ByteArray) (x10 : Bool) (h4096 : FV) : J_law05_JvalSimple_3_0 R k w x0 x1 x2 x8 x10 h4096 = ifB x10
  (when (FV.isAg 6 h4096) (when (FV.isInt .i64 (FV.cell h4096 0)) (ifB ((FV.toInt (FV.cell h4096 0)) != 3)
   (some ([.fz (FV.bool false)], []))
   (when (FV.isAg 6 h4096) (when (((FV.isInt .i64 (FV.cell h4096 1)) && ((FV.isInt .i64 (FV.cell h4096 2)) && true)) && true) (ifB (!(((FV.toInt (FV.cell h4096 1)) == x1) && (((FV.toInt (FV.cell h4096 2)) == 0) && true)))
    (some ([.fz (FV.bool false)], []))
    (ifB (!x10)
     (when (FV.isAg 6 h4096) (when (FV.isInt .i64 (FV.cell h4096 0)) (ifB ((FV.toInt (FV.cell h4096 0)) != 7)
      (some ([.fz (FV.bool false)], []))
      (when (FV.isAg 6 h4096) (when (FV.isStr (FV.cell h4096 3)) (ifB (!(ByteArray.toList (FV.toStr (FV.cell h4096 3)) == ByteArray.toList (⟨#[110, 117, 109, 98, 101, 114]⟩ : ByteArray)))
       (some ([.fz (FV.bool false)], []))
       (jump w (J_law05_JvalSimple_2_0 R k w x0 x2 x8 h4096))))))))
     (jump w (J_law05_JvalSimple_2_0 R k w x0 x2 x8 h4096)))))))))
  (ifB (!x10)
   (when (FV.isAg 6 h4096) (when (FV.isInt .i64 (FV.cell h4096 0)) (ifB ((FV.toInt (FV.cell h4096 0)) != 7)
    (some ([.fz (FV.bool false)], []))
    (when (FV.isAg 6 h4096) (when (FV.isStr (FV.cell h4096 3)) (ifB (!(ByteArray.toList (FV.toStr (FV.cell h4096 3)) == ByteArray.toList (⟨#[110, 117, 109, 98, 101, 114]⟩ : ByteArray)))
     (some ([.fz (FV.bool false)], []))
     (jump w (J_law05_JvalSimple_2_0 R k w x0 x2 x8 h4096))))))))
   (jump w (J_law05_JvalSimple_2_0 R k w x0 x2 x8 h4096))) := by kernel_rfl
theorem J_law05_JvalSimple_2_0_eq (R : Orc) (k : Nat) (w : Bool) (x0 : Int) (x2 : ByteArray) (x8 : ByteArray) (h4096 : FV) : J_law05_JvalSimple_2_0 R k w x0 x2 x8 h4096 = onR (R N_jval_Text [.fz (FV.str x2)]) fun r1 => when (List.isEmpty r1.2 && allF [.fz] r1.1) (onR (R N_jval_Wrong [.fz (FV.str x2)]) fun r2 => when (List.isEmpty r2.2 && allF [.fz] r2.1) (when (FV.fits 6 true (TV.toF (List.getD r1.1 0 TV.em))) (when (FV.fits 6 true (TV.toF (List.getD r2.1 0 TV.em))) (when (((FV.fits 6 true h4096) && true) && (((FV.fits 6 true (TV.toF (List.getD r1.1 0 TV.em))) && true) && true)) (onR (R N_jval_List [.fz (FV.sl [h4096, (TV.toF (List.getD r1.1 0 TV.em))])]) fun r3 => when (List.isEmpty r3.2 && allF [.fz] r3.1) (when (FV.fits 6 true (TV.toF (List.getD r3.1 0 TV.em))) (onR (R N_jval_Name [.fz (FV.int .i64 x0)]) fun r4 => when (List.isEmpty r4.2 && allF [.fz] r4.1) (when (FV.isStr (TV.toF (List.getD r4.1 0 TV.em))) (ifB (ByteArray.toList (FV.toStr (TV.toF (List.getD r4.1 0 TV.em))) == ByteArray.toList x8)
  (when (FV.isAg 6 (TV.toF (List.getD r1.1 0 TV.em))) (when (FV.isInt .i64 (FV.cell (TV.toF (List.getD r1.1 0 TV.em)) 0)) (ifB ((FV.toInt (FV.cell (TV.toF (List.getD r1.1 0 TV.em)) 0)) == 4)
   (when (FV.isAg 6 (TV.toF (List.getD r1.1 0 TV.em))) (when (FV.isStr (FV.cell (TV.toF (List.getD r1.1 0 TV.em)) 3)) (ifB (ByteArray.toList (FV.toStr (FV.cell (TV.toF (List.getD r1.1 0 TV.em)) 3)) == ByteArray.toList x2)
    (when (FV.isAg 6 (TV.toF (List.getD r2.1 0 TV.em))) (when (FV.isInt .i64 (FV.cell (TV.toF (List.getD r2.1 0 TV.em)) 0)) (ifB ((FV.toInt (FV.cell (TV.toF (List.getD r2.1 0 TV.em)) 0)) == 7)
     (when (FV.isAg 6 (TV.toF (List.getD r2.1 0 TV.em))) (when (FV.isStr (FV.cell (TV.toF (List.getD r2.1 0 TV.em)) 3)) (ifB (ByteArray.toList (FV.toStr (FV.cell (TV.toF (List.getD r2.1 0 TV.em)) 3)) == ByteArray.toList x2)
      (onR (R N_jval_Truth [.fz (FV.bool true)]) fun r5 => when (List.isEmpty r5.2 && allF [.fz] r5.1) (when (FV.isAg 6 (TV.toF (List.getD r5.1 0 TV.em))) (when (FV.isInt .i64 (FV.cell (TV.toF (List.getD r5.1 0 TV.em)) 0)) (ifB ((FV.toInt (FV.cell (TV.toF (List.getD r5.1 0 TV.em)) 0)) == 2)
       (onR (R N_jval_Truth [.fz (FV.bool false)]) fun r6 => when (List.isEmpty r6.2 && allF [.fz] r6.1) (when (FV.isAg 6 (TV.toF (List.getD r6.1 0 TV.em))) (when (FV.isInt .i64 (FV.cell (TV.toF (List.getD r6.1 0 TV.em)) 0)) (ifB ((FV.toInt (FV.cell (TV.toF (List.getD r6.1 0 TV.em)) 0)) == 1)
        (when (FV.isAg 6 (TV.toF (List.getD r3.1 0 TV.em))) (when (FV.isInt .i64 (FV.cell (TV.toF (List.getD r3.1 0 TV.em)) 0)) (ifB ((FV.toInt (FV.cell (TV.toF (List.getD r3.1 0 TV.em)) 0)) == 5)
         (when (FV.isAg 6 (TV.toF (List.getD r3.1 0 TV.em))) (when (FV.isSl (FV.cell (TV.toF (List.getD r3.1 0 TV.em)) 4)) (ifB ((List.length (FV.toSl (FV.cell (TV.toF (List.getD r3.1 0 TV.em)) 4)) : Int) == 2)
          (when (FV.isAg 6 (TV.toF (List.getD r3.1 0 TV.em))) (when (FV.isSl (FV.cell (TV.toF (List.getD r3.1 0 TV.em)) 4)) (when (decide (1 < (List.length (FV.toSl (FV.cell (TV.toF (List.getD r3.1 0 TV.em)) 4)) : Int))) (when (FV.fits 6 true (List.getD (FV.toSl (FV.cell (TV.toF (List.getD r3.1 0 TV.em)) 4)) 1 FV.nilp)) (onR (R N_ref05_Same [.fz (List.getD (FV.toSl (FV.cell (TV.toF (List.getD r3.1 0 TV.em)) 4)) 1 FV.nilp), .fz (TV.toF (List.getD r1.1 0 TV.em))]) fun r7 => when (List.isEmpty r7.2 && allF [.fz] r7.1) (when (FV.isBool (TV.toF (List.getD r7.1 0 TV.em))) (ifB (FV.toBool (TV.toF (List.getD r7.1 0 TV.em)))
           (onR (R N_jval_List [.fz (FV.sl [])]) fun r8 => when (List.isEmpty r8.2 && allF [.fz] r8.1) (when (FV.isAg 6 (TV.toF (List.getD r8.1 0 TV.em))) (when (FV.isSl (FV.cell (TV.toF (List.getD r8.1 0 TV.em)) 4)) (ifB ((List.length (FV.toSl (FV.cell (TV.toF (List.getD r8.1 0 TV.em)) 4)) : Int) == 0)
            (onR (R N_law05_lives []) fun r9 => when (List.isEmpty r9.2 && allF [.fz] r9.1) (when (FV.isBool (TV.toF (List.getD r9.1 0 TV.em))) (some ([.fz (FV.bool (FV.toBool (TV.toF (List.getD r9.1 0 TV.em))))], []))))
            (some ([.fz (FV.bool false)], []))))))
           (some ([.fz (FV.bool false)], [])))))))))
          (some ([.fz (FV.bool false)], [])))))
         (some ([.fz (FV.bool false)], [])))))
        (some ([.fz (FV.bool false)], []))))))
       (some ([.fz (FV.bool false)], []))))))
      (some ([.fz (FV.bool false)], [])))))
     (some ([.fz (FV.bool false)], [])))))
    (some ([.fz (FV.bool false)], [])))))
   (some ([.fz (FV.bool false)], [])))))
  (some ([.fz (FV.bool false)], []))))))))))) := by kernel_rfl
/-! keyhole/keyholelaw05.JvalIs -/
def A_law05_JvalIs_j1 : ACode := .seq (.draws [⟨⟨(some 14), .load 6 true (.t 2), none, none⟩, []⟩,
  ⟨⟨(some 15), .call N_jval_Is [((.t 14), .fz)] [.fz], none, some .bool⟩, [0]⟩,
  ⟨⟨(some 16), .load 6 true (.t 2), none, none⟩, []⟩,
  ⟨⟨(some 17), .call N_ref05_Is [((.t 16), .fz), ((.c (.fz (.int .i64 0))), .fz)] [.fz], none, some .bool⟩, [2, 1]⟩,
  ⟨⟨(some 18), .binB false (.t 15) (.t 17), none, some .bool⟩, [1, 3]⟩,
  ⟨⟨(some 19), .mov (.t 18), none, some .bool⟩, [4, 3]⟩,
  ⟨⟨(some 20), .load 6 true (.t 2), (some (19, true)), none⟩, [5]⟩,
  ⟨⟨(some 21), .load 6 true (.t 3), (some (19, true)), none⟩, [5]⟩,
  ⟨⟨(some 22), .call N_jval_Same [((.t 20), .fz), ((.t 21), .fz)] [.fz], (some (19, true)), some .bool⟩, [6, 7, 5, 5]⟩,
  ⟨⟨(some 23), .load 6 true (.t 2), (some (19, true)), none⟩, [5]⟩,
  ⟨⟨(some 24), .load 6 true (.t 3), (some (19, true)), none⟩, [5]⟩,
  ⟨⟨(some 25), .call N_ref05_Same [((.t 23), .fz), ((.t 24), .fz)] [.fz], (some (19, true)), some .bool⟩, [9, 10, 8, 5]⟩,
  ⟨⟨(some 26), .binB false (.t 22) (.t 25), (some (19, true)), some .bool⟩, [8, 11, 5]⟩,
  ⟨⟨(some 27), .pick (.t 19) (.t 26) (.c (.fz (.bool false))), none, some .bool⟩, [5, 12]⟩,
  ⟨⟨(some 28), .mov (.t 27), none, some .bool⟩, [13, 11]⟩,
  ⟨⟨(some 29), .load 6 true (.t 2), (some (28, true)), none⟩, [14]⟩,
  ⟨⟨(some 30), .load 6 true (.t 2), (some (28, true)), none⟩, [14]⟩,
  ⟨⟨(some 31), .call N_jval_Same [((.t 29), .fz), ((.t 30), .fz)] [.fz], (some (28, true)), some .bool⟩, [15, 16, 14, 14]⟩,
  ⟨⟨(some 32), .pick (.t 28) (.t 31) (.c (.fz (.bool false))), none, some .bool⟩, [14, 17]⟩,
  ⟨⟨(some 33), .mov (.t 32), none, some .bool⟩, [18, 17]⟩,
  ⟨⟨(some 34), .call N_law05_lives [] [.fz], (some (33, true)), some .bool⟩, [19, 19]⟩,
  ⟨⟨(some 35), .pick (.t 33) (.t 34) (.c (.fz (.bool false))), none, some .bool⟩, [19, 20]⟩,
  ⟨⟨(some 4), .mov (.t 35), none, some .bool⟩, [21, 20, 0, 1, 2, 3, 4, 5, 6, 7, 8, 9, 10, 11, 12, 13, 14, 15, 16, 17, 18, 19, 20, 21]⟩])
 (.ret)
def A_law05_JvalIs : AFunc := ⟨2, [(.tmp 4, .fz)], .seq (.region [⟨(some 2), .box 6 true (.t 0), none, none⟩,
  ⟨(some 3), .box 6 true (.t 1), none, none⟩,
  ⟨(some 4), .mov (.c (.fz (.bool false))), none, some .bool⟩])
 (.seq (.seq (.region [⟨(some 5), .load 6 true (.t 2), none, none⟩,
    ⟨(some 6), .call N_ref05_Light [((.t 5), .fz), ((.c (.fz (.int .i64 500))), .fz)] [.fz], none, some .bool⟩,
    ⟨(some 7), .notB (.t 6), none, some .bool⟩,
    ⟨(some 8), .mov (.t 7), none, some .bool⟩,
    ⟨(some 9), .load 6 true (.t 3), (some (8, false)), none⟩,
    ⟨(some 10), .call N_ref05_Light [((.t 9), .fz), ((.c (.fz (.int .i64 500))), .fz)] [.fz], (some (8, false)), some .bool⟩,
    ⟨(some 11), .notB (.t 10), (some (8, false)), some .bool⟩,
    ⟨(some 12), .pick (.t 8) (.c (.fz (.bool true))) (.t 11), none, some .bool⟩])
   (.cond (.t 12) (.seq (.region [⟨(some 13), .call N_law05_lives [] [.fz], none, some .bool⟩,
      ⟨(some 4), .mov (.t 13), none, some .bool⟩])
     (.ret))
    (.skip)))
  (.trim [2, 3] A_law05_JvalIs_j1))⟩
def J_law05_JvalIs_1_0 (R : Orc) (k : Nat) (w : Bool) (h4096_0 : Int) (h4096_1 : Int) (h4096_2 : Int) (h4096_3 : ByteArray) (h4096_4 : List FV) (h4096_5 : List FV) (h4097_0 : Int) (h4097_1 : Int) (h4097_2 : Int) (h4097_3 : ByteArray) (h4097_4 : List FV) (h4097_5 : List FV) := execL R k w [] A_law05_JvalIs_j1 Ans ⟨[(2, .ptr 4096 0 0), (3, .ptr 4097 0 0)], [(4095, .dead), (4096, .var 6 true (.fz (FV.ag [(FV.int .i64 h4096_0), (FV.int .i64 h4096_1), (FV.int .i64 h4096_2), (FV.str h4096_3), (FV.sl h4096_4), (FV.sl h4096_5)]))), (4097, .var 6 true (.fz (FV.ag [(FV.int .i64 h4097_0), (FV.int .i64 h4097_1), (FV.int .i64 h4097_2), (FV.str h4097_3), (FV.sl h4097_4), (FV.sl h4097_5)])))]⟩ (kFin R [(.tmp 4, .fz)] [])
theorem E_law05_JvalIs (R : Orc) (k : Nat) (w : Bool) (a0_0 : Int) (a0_1_0 : Int) (a0_1_1 : Int) (a0_2 : ByteArray) (a0_3 : List FV) (a0_4 : List FV) (a1_0 : Int) (a1_1_0 : Int) (a1_1_1 : Int) (a1_2 : ByteArray) (a1_3 : List FV) (a1_4 : List FV) : callL R k w A_law05_JvalIs [.fz (FV.ag [(FV.int .i64 a0_0), (FV.int .i64 a0_1_0), (FV.int .i64 a0_1_1), (FV.str a0_2), (FV.sl a0_3), (FV.sl a0_4)]), .fz (FV.ag [(FV.int .i64 a1_0), (FV.int .i64 a1_1_0), (FV.int .i64 a1_1_1), (FV.str a1_2), (FV.sl a1_3), (FV.sl a1_4)])] = onR (R N_ref05_Light [.fz (FV.ag [(FV.int .i64 a0_0), (FV.int .i64 a0_1_0), (FV.int .i64 a0_1_1), (FV.str a0_2), (FV.sl a0_3), (FV.sl a0_4)]), .fz (FV.int .i64 500)]) fun r0 => when (List.isEmpty r0.2 && allF [.fz] r0.1) (when (FV.isBool (TV.toF (List.getD r0.1 0 TV.em))) (ifB (!(FV.toBool (TV.toF (List.getD r0.1 0 TV.em))))
  (onR (R N_law05_lives []) fun r1 => when (List.isEmpty r1.2 && allF [.fz] r1.1) (when (FV.isBool (TV.toF (List.getD r1.1 0 TV.em))) (some ([.fz (FV.bool (FV.toBool (TV.toF (List.getD r1.1 0 TV.em))))], []))))
  (onR (R N_ref05_Light [.fz (FV.ag [(FV.int .i64 a1_0), (FV.int .i64 a1_1_0), (FV.int .i64 a1_1_1), (FV.str a1_2), (FV.sl a1_3), (FV.sl a1_4)]), .fz (FV.int .i64 500)]) fun r2 => when (List.isEmpty r2.2 && allF [.fz] r2.1) (when (FV.isBool (TV.toF (List.getD r2.1 0 TV.em))) (ifB (!(FV.toBool (TV.toF (List.getD r2.1 0 TV.em))))
   (onR (R N_law05_lives []) fun r3 => when (List.isEmpty r3.2 && allF [.fz] r3.1) (when (FV.isBool (TV.toF (List.getD r3.1 0 TV.em))) (some ([.fz (FV.bool (FV.toBool (TV.toF (List.getD r3.1 0 TV.em))))], []))))
   (jump w (J_law05_JvalIs_1_0 R k w a0_0 a0_1_0 a0_1_1 a0_2 a0_3 a0_4 a1_0 a1_1_0 a1_1_1 a1_2 a1_3 a1_4))))))) := by kernel_rfl
theorem J_law05_JvalIs_1_0_eq (R : Orc) (k : Nat) (w : Bool) (h4096_0 : Int) (h4096_1 : Int) (h4096_2 : Int) (h4096_3 : ByteArray) (h4096_4 : List FV) (h4096_5 : List FV) (h4097_0 : Int) (h4097_1 : Int) (h4097_2 : Int) (h4097_3 : ByteArray) (h4097_4 : List FV) (h4097_5 : List FV) : J_law05_JvalIs_1_0 R k w h4096_0 h4096_1 h4096_2 h4096_3 h4096_4 h4096_5 h4097_0 h4097_1 h4097_2 h4097_3 h4097_4 h4097_5 = onR (R N_jval_Is [.fz (FV.ag [(FV.int .i64 h4096_0), (FV.int .i64 h4096_1), (FV.int .i64 h4096_2), (FV.str h4096_3), (FV.sl h4096_4), (FV.sl h4096_5)])]) fun r4 => when (List.isEmpty r4.2 && allF [.fz] r4.1) (when (FV.isBool (TV.toF (List.getD r4.1 0 TV.em))) (onR (R N_ref05_Is [.fz (FV.ag [(FV.int .i64 h4096_0), (FV.int .i64 h4096_1), (FV.int .i64 h4096_2), (FV.str h4096_3), (FV.sl h4096_4), (FV.sl h4096_5)]), .fz (FV.int .i64 0)]) fun r5 => when (List.isEmpty r5.2 && allF [.fz] r5.1) (when (FV.isBool (TV.toF (List.getD r5.1 0 TV.em))) (ifB ((FV.toBool (TV.toF (List.getD r4.1 0 TV.em))) == (FV.toBool (TV.toF (List.getD r5.1 0 TV.em))))
  (onR (R N_jval_Same [.fz (FV.ag [(FV.int .i64 h4096_0), (FV.int .i64 h4096_1), (FV.int .i64 h4096_2), (FV.str h4096_3), (FV.sl h4096_4), (FV.sl h4096_5)]), .fz (FV.ag [(FV.int .i64 h4097_0), (FV.int .i64 h4097_1), (FV.int .i64 h4097_2), (FV.str h4097_3), (FV.sl h4097_4), (FV.sl h4097_5)])]) fun r6 => when (List.isEmpty r6.2 && allF [.fz] r6.1) (when (FV.isBool (TV.toF (List.getD r6.1 0 TV.em))) (onR (R N_ref05_Same [.fz (FV.ag [(FV.int .i64 h4096_0), (FV.int .i64 h4096_1), (FV.int .i64 h4096_2), (FV.str h4096_3), (FV.sl h4096_4), (FV.sl h4096_5)]), .fz (FV.ag [(FV.int .i64 h4097_0), (FV.int .i64 h4097_1), (FV.int .i64 h4097_2), (FV.str h4097_3), (FV.sl h4097_4), (FV.sl h4097_5)])]) fun r7 => when (List.isEmpty r7.2 && allF [.fz] r7.1) (when (FV.isBool (TV.toF (List.getD r7.1 0 TV.em))) (ifB ((FV.toBool (TV.toF (List.getD r6.1 0 TV.em))) == (FV.toBool (TV.toF (List.getD r7.1 0 TV.em))))
   (onR (R N_jval_Same [.fz (FV.ag [(FV.int .i64 h4096_0), (FV.int .i64 h4096_1), (FV.int .i64 h4096_2), (FV.str h4096_3), (FV.sl h4096_4), (FV.sl h4096_5)]), .fz (FV.ag [(FV.int .i64 h4096_0), (FV.int .i64 h4096_1), (FV.int .i64 h4096_2), (FV.str h4096_3), (FV.sl h4096_4), (FV.sl h4096_5)])]) fun r8 => when (List.isEmpty r8.2 && allF [.fz] r8.1) (when (FV.isBool (TV.toF (List.getD r8.1 0 TV.em))) (ifB (FV.toBool (TV.toF (List.getD r8.1 0 TV.em)))
    (onR (R N_law05_lives []) fun r9 => when (List.isEmpty r9.2 && allF [.fz] r9.1) (when (FV.isBool (TV.toF (List.getD r9.1 0 TV.em))) (some ([.fz (FV.bool (FV.toBool (TV.toF (List.getD r9.1 0 TV.em))))], []))))
    (some ([.fz (FV.bool false)], [])))))
   (some ([.fz (FV.bool false)], [])))))))
  (some ([.fz (FV.bool false)], [])))))) := by kernel_rfl
/-! keyhole/keyholeref05.Light -/
def A_ref05_Light : AFunc := ⟨2, [(.tmp 4, .fz)], .seq (.region [⟨(some 2), .box 6 true (.t 0), none, none⟩,
  ⟨(some 4), .mov (.c (.fz (.bool false))), none, some .bool⟩])
 (.seq (.region [⟨(some 5), .load 6 true (.t 2), none, none⟩,
   ⟨(some 6), .mov (.t 1), none, some (.int .i64)⟩,
   ⟨(some 7), .binI .add .i64 (.t 6) (.c (.fz (.int .i64 1))), none, some (.int .i64)⟩,
   ⟨(some 8), .call N_ref05_Size [((.t 5), .fz), ((.c (.fz (.int .i64 0))), .fz), ((.t 7), .fz)] [.fz], none, some (.int .i64)⟩,
   ⟨(some 9), .mov (.t 1), none, some (.int .i64)⟩,
   ⟨(some 10), .binI .leq .i64 (.t 8) (.t 9), none, some .bool⟩,
   ⟨(some 11), .mov (.t 10), none, some .bool⟩,
   ⟨(some 12), .load 6 true (.t 2), (some (11, true)), none⟩,
   ⟨(some 13), .call N_ref05_Flat [((.t 12), .fz), ((.c (.fz (.int .i64 60))), .fz)] [.fz], (some (11, true)), some .bool⟩,
   ⟨(some 14), .pick (.t 11) (.t 13) (.c (.fz (.bool false))), none, some .bool⟩,
   ⟨(some 4), .mov (.t 14), none, some .bool⟩])
  (.ret))⟩
theorem E_ref05_Light (R : Orc) (k : Nat) (w : Bool) (a0_0 : Int) (a0_1_0 : Int) (a0_1_1 : Int) (a0_2 : ByteArray) (a0_3 : List FV) (a0_4 : List FV) (a1 : Int) : callL R k w A_ref05_Light [.fz (FV.ag [(FV.int .i64 a0_0), (FV.int .i64 a0_1_0), (FV.int .i64 a0_1_1), (FV.str a0_2), (FV.sl a0_3), (FV.sl a0_4)]), .fz (FV.int .i64 a1)] = onR (R N_ref05_Size [.fz (FV.ag [(FV.int .i64 a0_0), (FV.int .i64 a0_1_0), (FV.int .i64 a0_1_1), (FV.str a0_2), (FV.sl a0_3), (FV.sl a0_4)]), .fz (FV.int .i64 0), .fz (FV.int .i64 (IntKind.wrap .i64 (a1 + 1)))]) fun r0 => when (List.isEmpty r0.2 && allF [.fz] r0.1) (when (FV.isInt .i64 (TV.toF (List.getD r0.1 0 TV.em))) (ifB (decide ((FV.toInt (TV.toF (List.getD r0.1 0 TV.em))) ≤ a1))
  (onR (R N_ref05_Flat [.fz (FV.ag [(FV.int .i64 a0_0), (FV.int .i64 a0_1_0), (FV.int .i64 a0_1_1), (FV.str a0_2), (FV.sl a0_3), (FV.sl a0_4)]), .fz (FV.int .i64 60)]) fun r1 => when (List.isEmpty r1.2 && allF [.fz] r1.1) (when (FV.isBool (TV.toF (List.getD r1.1 0 TV.em))) (some ([.fz (FV.bool (FV.toBool (TV.toF (List.getD r1.1 0 TV.em))))], []))))
  (some ([.fz (FV.bool false)], [])))) := by kernel_rfl
/-! keyhole/keyholeref05.Is -/
def A_ref05_Is_b1 : ACode := .seq (.seq (.region [⟨(some 61), .mov (.t 7), none, some (.int .i64)⟩,
   ⟨(some 62), .fadr 5 (.t 2), none, none⟩,
   ⟨(some 63), .load 1 false (.t 62), none, none⟩,
   ⟨(some 64), .len (.sl 1 false) (.t 63), none, some (.int .i64)⟩,
   ⟨(some 65), .binI .lss .i64 (.t 61) (.t 64), none, some .bool⟩])
  (.cond (.t 65) (.skip)
   (.exit 0)))
 (.seq (.block 1 (.seq (.region [⟨(some 69), .fadr 5 (.t 2), none, none⟩,
     ⟨(some 70), .load 1 false (.t 69), none, none⟩,
     ⟨(some 71), .mov (.t 7), none, some (.int .i64)⟩,
     ⟨(some 72), .iadr (.sl 1 false) (.t 70) (.t 71), none, none⟩,
     ⟨(some 73), .load 1 false (.t 72), none, some .str⟩,
     ⟨(some 74), .call N_ref03_Signs [((.t 73), .fz)] [.fz, .fz], none, none⟩,
     ⟨(some 68), .mov (.t 74), none, none⟩,
     ⟨(some 75), .extract (.t 68) 0, none, none⟩,
     ⟨(some 76), .extract (.t 68) 1, none, some .bool⟩,
     ⟨(some 8), .mov (.t 75), none, none⟩,
     ⟨(some 9), .mov (.t 76), none, some .bool⟩])
    (.seq (.draws [⟨⟨(some 77), .mov (.t 9), none, some .bool⟩, []⟩,
      ⟨⟨(some 78), .notB (.t 77), none, some .bool⟩, [0]⟩,
      ⟨⟨(some 79), .mov (.t 78), none, some .bool⟩, [1]⟩,
      ⟨⟨(some 80), .mov (.t 7), (some (79, false)), some (.int .i64)⟩, [2]⟩,
      ⟨⟨(some 81), .binI .gtr .i64 (.t 80) (.c (.fz (.int .i64 0))), (some (79, false)), some .bool⟩, [3, 2]⟩,
      ⟨⟨(some 82), .mov (.t 81), (some (79, false)), some .bool⟩, [4, 2, 2]⟩,
      ⟨⟨(some 83), .fadr 5 (.t 2), (some (82, true)), none⟩, [5]⟩,
      ⟨⟨(some 84), .load 1 false (.t 83), (some (82, true)), none⟩, [6, 5]⟩,
      ⟨⟨(some 85), .mov (.t 7), (some (82, true)), some (.int .i64)⟩, [5]⟩,
      ⟨⟨(some 86), .iadr (.sl 1 false) (.t 84) (.t 85), (some (82, true)), none⟩, [7, 8, 5]⟩,
      ⟨⟨(some 87), .load 1 false (.t 86), (some (82, true)), some .str⟩, [9, 5]⟩,
      ⟨⟨(some 88), .fadr 5 (.t 2), (some (82, true)), none⟩, [5]⟩,
      ⟨⟨(some 89), .load 1 false (.t 88), (some (82, true)), none⟩, [11, 5]⟩,
      ⟨⟨(some 90), .mov (.t 7), (some (82, true)), some (.int .i64)⟩, [5]⟩,
      ⟨⟨(some 91), .binI .sub .i64 (.t 90) (.c (.fz (.int .i64 1))), (some (82, true)), some (.int .i64)⟩, [13, 5]⟩,
      ⟨⟨(some 92), .iadr (.sl 1 false) (.t 89) (.t 91), (some (82, true)), none⟩, [12, 14, 5]⟩,
      ⟨⟨(some 93), .load 1 false (.t 92), (some (82, true)), some .str⟩, [15, 5]⟩,
      ⟨⟨(some 94), .binS .leq (.t 87) (.t 93), (some (82, true)), some .bool⟩, [10, 16, 5]⟩,
      ⟨⟨(some 95), .pick (.t 82) (.t 94) (.c (.fz (.bool false))), (some (79, false)), some .bool⟩, [5, 17, 2]⟩,
      ⟨⟨(some 96), .pick (.t 79) (.c (.fz (.bool true))) (.t 95), none, some .bool⟩, [2, 18]⟩])
     (.cond (.t 96) (.seq (.region [⟨(some 4), .mov (.c (.fz (.bool false))), none, some .bool⟩])
       (.ret))
      (.skip)))))
  (.region [⟨(some 66), .mov (.t 7), none, some (.int .i64)⟩,
   ⟨(some 67), .binI .add .i64 (.t 66) (.c (.fz (.int .i64 1))), none, some (.int .i64)⟩,
   ⟨(some 7), .mov (.t 67), none, some (.int .i64)⟩]))
def A_ref05_Is_b2 : ACode := .seq (.seq (.region [⟨(some 97), .mov (.t 10), none, some (.int .i64)⟩,
   ⟨(some 98), .fadr 4 (.t 2), none, none⟩,
   ⟨(some 99), .load 1 false (.t 98), none, none⟩,
   ⟨(some 100), .len (.sl 6 true) (.t 99), none, some (.int .i64)⟩,
   ⟨(some 101), .binI .lss .i64 (.t 97) (.t 100), none, some .bool⟩])
  (.cond (.t 101) (.skip)
   (.exit 2)))
 (.seq (.block 3 (.seq (.region [⟨(some 104), .fadr 4 (.t 2), none, none⟩,
     ⟨(some 105), .load 1 false (.t 104), none, none⟩,
     ⟨(some 106), .mov (.t 10), none, some (.int .i64)⟩,
     ⟨(some 107), .iadr (.sl 6 true) (.t 105) (.t 106), none, none⟩,
     ⟨(some 108), .fadr 0 (.t 107), none, none⟩,
     ⟨(some 109), .load 1 false (.t 108), none, some (.int .i64)⟩,
     ⟨(some 110), .binI .eql .i64 (.t 109) (.c (.fz (.int .i64 7))), none, some .bool⟩,
     ⟨(some 111), .mov (.t 110), none, some .bool⟩,
     ⟨(some 112), .fadr 4 (.t 2), (some (111, false)), none⟩,
     ⟨(some 113), .load 1 false (.t 112), (some (111, false)), none⟩,
     ⟨(some 114), .mov (.t 10), (some (111, false)), some (.int .i64)⟩,
     ⟨(some 115), .iadr (.sl 6 true) (.t 113) (.t 114), (some (111, false)), none⟩,
     ⟨(some 116), .load 6 true (.t 115), (some (111, false)), none⟩,
     ⟨(some 117), .mov (.t 1), (some (111, false)), some (.int .i64)⟩,
     ⟨(some 118), .binI .add .i64 (.t 117) (.c (.fz (.int .i64 1))), (some (111, false)), some (.int .i64)⟩,
     ⟨(some 119), .call N_ref05_Is [((.t 116), .fz), ((.t 118), .fz)] [.fz], (some (111, false)), some .bool⟩,
     ⟨(some 120), .notB (.t 119), (some (111, false)), some .bool⟩,
     ⟨(some 121), .pick (.t 111) (.c (.fz (.bool true))) (.t 120), none, some .bool⟩])
    (.cond (.t 121) (.seq (.region [⟨(some 4), .mov (.c (.fz (.bool false))), none, some .bool⟩])
      (.ret))
     (.skip))))
  (.region [⟨(some 102), .mov (.t 10), none, some (.int .i64)⟩,
   ⟨(some 103), .binI .add .i64 (.t 102) (.c (.fz (.int .i64 1))), none, some (.int .i64)⟩,
   ⟨(some 10), .mov (.t 103), none, some (.int .i64)⟩]))
def A_ref05_Is_s1 : ACode := .seq (.region [⟨(some 4), .mov (.c (.fz (.bool true))), none, some .bool⟩])
 (.ret)
def A_ref05_Is_s2 : ACode := .seq (.seq (.region [⟨(some 10), .mov (.c (.fz (.int .i64 0))), none, some (.int .i64)⟩])
  (.block 2 (.loop [1, 2, 10] [4] A_ref05_Is_b2)))
 A_ref05_Is_s1
def A_ref05_Is_j3 : ACode := .seq (.seq (.region [⟨(some 7), .mov (.c (.fz (.int .i64 0))), none, some (.int .i64)⟩])
  (.block 0 (.loop [1, 2, 7] [1, 2, 4] A_ref05_Is_b1)))
 A_ref05_Is_s2
def A_ref05_Is_j4 : ACode := .seq (.region [⟨(some 29), .fadr 3 (.t 2), none, none⟩,
  ⟨(some 30), .load 1 false (.t 29), none, some .str⟩,
  ⟨(some 31), .call N_ref03_Signs [((.t 30), .fz)] [.fz, .fz], none, none⟩,
  ⟨(some 28), .mov (.t 31), none, none⟩,
  ⟨(some 32), .extract (.t 28) 0, none, none⟩,
  ⟨(some 33), .extract (.t 28) 1, none, some .bool⟩,
  ⟨(some 5), .mov (.t 32), none, none⟩,
  ⟨(some 6), .mov (.t 33), none, some .bool⟩])
 (.seq (.seq (.region [⟨(some 34), .mov (.t 6), none, some .bool⟩,
    ⟨(some 35), .notB (.t 34), none, some .bool⟩,
    ⟨(some 36), .mov (.t 35), none, some .bool⟩,
    ⟨(some 37), .fadr 0 (.t 2), (some (36, false)), none⟩,
    ⟨(some 38), .load 1 false (.t 37), (some (36, false)), some (.int .i64)⟩,
    ⟨(some 39), .binI .eql .i64 (.t 38) (.c (.fz (.int .i64 3))), (some (36, false)), some .bool⟩,
    ⟨(some 40), .mov (.t 39), (some (36, false)), some .bool⟩,
    ⟨(some 41), .fadr 1 (.t 2), (some (40, true)), none⟩,
    ⟨(some 42), .load 2 true (.t 41), (some (40, true)), none⟩,
    ⟨(some 43), .call N_ref04_Is [((.t 42), .fz)] [.fz], (some (40, true)), some .bool⟩,
    ⟨(some 44), .notB (.t 43), (some (40, true)), some .bool⟩,
    ⟨(some 45), .pick (.t 40) (.t 44) (.c (.fz (.bool false))), (some (36, false)), some .bool⟩,
    ⟨(some 46), .pick (.t 36) (.c (.fz (.bool true))) (.t 45), none, some .bool⟩,
    ⟨(some 47), .mov (.t 46), none, some .bool⟩,
    ⟨(some 48), .fadr 0 (.t 2), (some (47, false)), none⟩,
    ⟨(some 49), .load 1 false (.t 48), (some (47, false)), some (.int .i64)⟩,
    ⟨(some 50), .binI .eql .i64 (.t 49) (.c (.fz (.int .i64 6))), (some (47, false)), some .bool⟩,
    ⟨(some 51), .mov (.t 50), (some (47, false)), some .bool⟩,
    ⟨(some 52), .fadr 5 (.t 2), (some (51, true)), none⟩,
    ⟨(some 53), .load 1 false (.t 52), (some (51, true)), none⟩,
    ⟨(some 54), .len (.sl 1 false) (.t 53), (some (51, true)), some (.int .i64)⟩,
    ⟨(some 55), .fadr 4 (.t 2), (some (51, true)), none⟩,
    ⟨(some 56), .load 1 false (.t 55), (some (51, true)), none⟩,
    ⟨(some 57), .len (.sl 6 true) (.t 56), (some (51, true)), some (.int .i64)⟩,
    ⟨(some 58), .binI .neq .i64 (.t 54) (.t 57), (some (51, true)), some .bool⟩,
    ⟨(some 59), .pick (.t 51) (.t 58) (.c (.fz (.bool false))), (some (47, false)), some .bool⟩,
    ⟨(some 60), .pick (.t 47) (.c (.fz (.bool true))) (.t 59), none, some .bool⟩])
   (.cond (.t 60) (.seq (.region [⟨(some 4), .mov (.c (.fz (.bool false))), none, some .bool⟩])
     (.ret))
    (.skip)))
  (.trim [1, 2] A_ref05_Is_j3))
def A_ref05_Is : AFunc := ⟨2, [(.tmp 4, .fz)], .seq (.region [⟨(some 2), .box 6 true (.t 0), none, none⟩,
  ⟨(some 4), .mov (.c (.fz (.bool false))), none, some .bool⟩])
 (.seq (.seq (.region [⟨(some 11), .fadr 0 (.t 2), none, none⟩,
    ⟨(some 12), .load 1 false (.t 11), none, some (.int .i64)⟩,
    ⟨(some 13), .binI .lss .i64 (.t 12) (.c (.fz (.int .i64 0))), none, some .bool⟩,
    ⟨(some 14), .mov (.t 13), none, some .bool⟩,
    ⟨(some 15), .fadr 0 (.t 2), (some (14, false)), none⟩,
    ⟨(some 16), .load 1 false (.t 15), (some (14, false)), some (.int .i64)⟩,
    ⟨(some 17), .binI .gtr .i64 (.t 16) (.c (.fz (.int .i64 7))), (some (14, false)), some .bool⟩,
    ⟨(some 18), .pick (.t 14) (.c (.fz (.bool true))) (.t 17), none, some .bool⟩,
    ⟨(some 19), .mov (.t 18), none, some .bool⟩,
    ⟨(some 20), .load 6 true (.t 2), (some (19, false)), none⟩,
    ⟨(some 21), .call N_ref05_zero [((.t 20), .fz)] [.fz], (some (19, false)), some .bool⟩,
    ⟨(some 22), .notB (.t 21), (some (19, false)), some .bool⟩,
    ⟨(some 23), .pick (.t 19) (.c (.fz (.bool true))) (.t 22), none, some .bool⟩,
    ⟨(some 24), .mov (.t 23), none, some .bool⟩,
    ⟨(some 25), .mov (.t 1), (some (24, false)), some (.int .i64)⟩,
    ⟨(some 26), .binI .gtr .i64 (.t 25) (.c (.fz (.int .i64 32))), (some (24, false)), some .bool⟩,
    ⟨(some 27), .pick (.t 24) (.c (.fz (.bool true))) (.t 26), none, some .bool⟩])
   (.cond (.t 27) (.seq (.region [⟨(some 4), .mov (.c (.fz (.bool false))), none, some .bool⟩])
     (.ret))
    (.skip)))
  (.trim [1, 2] A_ref05_Is_j4))⟩
def J_ref05_Is_4_0 (R : Orc) (k : Nat) (w : Bool) (x1 : Int) (h4096_0 : Int) (h4096_1 : Int) (h4096_2 : Int) (h4096_3 : ByteArray) (h4096_4 : List FV) (h4096_5 : List FV) := execL R k w [] A_ref05_Is_j4 Ans ⟨[(1, .fz (FV.int .i64 x1)), (2, .ptr 4096 0 0)], [(4095, .dead), (4096, .var 6 true (.fz (FV.ag [(FV.int .i64 h4096_0), (FV.int .i64 h4096_1), (FV.int .i64 h4096_2), (FV.str h4096_3), (FV.sl h4096_4), (FV.sl h4096_5)])))]⟩ (kFin R [(.tmp 4, .fz)] [])
def J_ref05_Is_3_0 (R : Orc) (k : Nat) (w : Bool) (x1 : Int) (h4096_0 : Int) (h4096_1 : Int) (h4096_2 : Int) (h4096_3 : ByteArray) (h4096_4 : List FV) (h4096_5 : List FV) := execL R k w [] A_ref05_Is_j3 Ans ⟨[(1, .fz (FV.int .i64 x1)), (2, .ptr 4096 0 0)], [(4095, .dead), (4096, .var 6 true (.fz (FV.ag [(FV.int .i64 h4096_0), (FV.int .i64 h4096_1), (FV.int .i64 h4096_2), (FV.str h4096_3), (FV.sl h4096_4), (FV.sl h4096_5)])))]⟩ (kFin R [(.tmp 4, .fz)] [])
def K_ref05_Is_1 (R : Orc) (k : Nat) (w : Bool) : AExit → St → Option Ans := (kBlk 0 (kSeq R k w [] A_ref05_Is_s2 (kFin R [(.tmp 4, .fz)] [])))
def L_ref05_Is_1_0 (R : Orc) (k : Nat) (w : Bool) (n : Nat) (x1 : Int) (x7 : Int) (h4096_0 : Int) (h4096_1 : Int) (h4096_2 : Int) (h4096_3 : ByteArray) (h4096_4 : List FV) (h4096_5 : List FV) := loopL R k w [] [1, 2, 7] [1, 2, 4] A_ref05_Is_b1 n ⟨[(1, .fz (FV.int .i64 x1)), (2, .ptr 4096 0 0), (7, .fz (FV.int .i64 x7))], [(4095, .dead), (4096, .var 6 true (.fz (FV.ag [(FV.int .i64 h4096_0), (FV.int .i64 h4096_1), (FV.int .i64 h4096_2), (FV.str h4096_3), (FV.sl h4096_4), (FV.sl h4096_5)])))]⟩
def X_ref05_Is_1_0 (x1 : Int) (x4 : Bool) (h4096_0 : Int) (h4096_1 : Int) (h4096_2 : Int) (h4096_3 : ByteArray) (h4096_4 : List FV) (h4096_5 : List FV) : St := ⟨[(1, .fz (FV.int .i64 x1)), (2, .ptr 4096 0 0), (4, .fz (FV.bool x4))], [(4095, .dead), (4096, .var 6 true (.fz (FV.ag [(FV.int .i64 h4096_0), (FV.int .i64 h4096_1), (FV.int .i64 h4096_2), (FV.str h4096_3), (FV.sl h4096_4), (FV.sl h4096_5)])))]⟩
def X_ref05_Is_1_1 (x1 : Int) (h4096_0 : Int) (h4096_1 : Int) (h4096_2 : Int) (h4096_3 : ByteArray) (h4096_4 : List FV) (h4096_5 : List FV) : St := ⟨[(1, .fz (FV.int .i64 x1)), (2, .ptr 4096 0 0)], [(4095, .dead), (4096, .var 6 true (.fz (FV.ag [(FV.int .i64 h4096_0), (FV.int .i64 h4096_1), (FV.int .i64 h4096_2), (FV.str h4096_3), (FV.sl h4096_4), (FV.sl h4096_5)])))]⟩
def K_ref05_Is_2 (R : Orc) (k : Nat) (w : Bool) : AExit → St → Option Ans := (kBlk 2 (kSeq R k w [] A_ref05_Is_s1 (kFin R [(.tmp 4, .fz)] [])))
def L_ref05_Is_2_0 (R : Orc) (k : Nat) (w : Bool) (n : Nat) (x1 : Int) (x10 : Int) (h4096_0 : Int) (h4096_1 : Int) (h4096_2 : Int) (h4096_3 : ByteArray) (h4096_4 : List FV) (h4096_5 : List FV) := loopL R k w [] [1, 2, 10] [4] A_ref05_Is_b2 n ⟨[(1, .fz (FV.int .i64 x1)), (2, .ptr 4096 0 0), (10, .fz (FV.int .i64 x10))], [(4095, .dead), (4096, .var 6 true (.fz (FV.ag [(FV.int .i64 h4096_0), (FV.int .i64 h4096_1), (FV.int .i64 h4096_2), (FV.str h4096_3), (FV.sl h4096_4), (FV.sl h4096_5)])))]⟩
def X_ref05_Is_2_0 (x4 : Bool) : St := ⟨[(4, .fz (FV.bool x4))], [(4095, .dead)]⟩
def X_ref05_Is_2_1 : St := ⟨[], [(4095, .dead)]⟩
theorem E_ref05_Is (R : Orc) (k : Nat) (w : Bool) (a0_0 : Int) (a0_1_0 : Int) (a0_1_1 : Int) (a0_2 : ByteArray) (a0_3 : List FV) (a0_4 : List FV) (a1 : Int) : callL R k w A_ref05_Is [.fz (FV.ag [(FV.int .i64 a0_0), (FV.int .i64 a0_1_0), (FV.int .i64 a0_1_1), (FV.str a0_2), (FV.sl a0_3), (FV.sl a0_4)]), .fz (FV.int .i64 a1)] = ifB (decide (a0_0 < 0))
  (some ([.fz (FV.bool false)], []))
  (ifB (decide (a0_0 > 7))
   (some ([.fz (FV.bool false)], []))
   (onR (R N_ref05_zero [.fz (FV.ag [(FV.int .i64 a0_0), (FV.int .i64 a0_1_0), (FV.int .i64 a0_1_1), (FV.str a0_2), (FV.sl a0_3), (FV.sl a0_4)])]) fun r0 => when (List.isEmpty r0.2 && allF [.fz] r0.1) (when (FV.isBool (TV.toF (List.getD r0.1 0 TV.em))) (ifB (!(FV.toBool (TV.toF (List.getD r0.1 0 TV.em))))
    (some ([.fz (FV.bool false)], []))
    (ifB (decide (a1 > 32))
     (some ([.fz (FV.bool false)], []))
     (jump w (J_ref05_Is_4_0 R k w a1 a0_0 a0_1_0 a0_1_1 a0_2 a0_3 a0_4))))))) := by kernel_rfl
theorem J_ref05_Is_4_0_eq (R : Orc) (k : Nat) (w : Bool) (x1 : Int) (h4096_0 : Int) (h4096_1 : Int) (h4096_2 : Int) (h4096_3 : ByteArray) (h4096_4 : List FV) (h4096_5 : List FV) : J_ref05_Is_4_0 R k w x1 h4096_0 h4096_1 h4096_2 h4096_3 h4096_4 h4096_5 = onR (R N_ref03_Signs [.fz (FV.str h4096_3)]) fun r1 => when (List.isEmpty r1.2 && allF [.fz, .fz] r1.1) (when (FV.isBool (TV.toF (List.getD r1.1 1 TV.em))) (ifB (!(FV.toBool (TV.toF (List.getD r1.1 1 TV.em))))
  (some ([.fz (FV.bool false)], []))
  (ifB (h4096_0 == 3)
   (onR (R N_ref04_Is [.fz (FV.ag [(FV.int .i64 h4096_1), (FV.int .i64 h4096_2)])]) fun r2 => when (List.isEmpty r2.2 && allF [.fz] r2.1) (when (FV.isBool (TV.toF (List.getD r2.1 0 TV.em))) (ifB (!(FV.toBool (TV.toF (List.getD r2.1 0 TV.em))))
    (some ([.fz (FV.bool false)], []))
    (ifB (h4096_0 == 6)
     (ifB ((List.length h4096_5 : Int) != (List.length h4096_4 : Int))
      (some ([.fz (FV.bool false)], []))
      (jump w (J_ref05_Is_3_0 R k w x1 h4096_0 h4096_1 h4096_2 h4096_3 h4096_4 h4096_5)))
     (jump w (J_ref05_Is_3_0 R k w x1 h4096_0 h4096_1 h4096_2 h4096_3 h4096_4 h4096_5))))))
   (ifB (h4096_0 == 6)
    (ifB ((List.length h4096_5 : Int) != (List.length h4096_4 : Int))
     (some ([.fz (FV.bool false)], []))
     (jump w (J_ref05_Is_3_0 R k w x1 h4096_0 h4096_1 h4096_2 h4096_3 h4096_4 h4096_5)))
    (jump w (J_ref05_Is_3_0 R k w x1 h4096_0 h4096_1 h4096_2 h4096_3 h4096_4 h4096_5)))))) := by kernel_rfl
theorem J_ref05_Is_3_0_eq (R : Orc) (k : Nat) (w : Bool) (x1 : Int) (h4096_0 : Int) (h4096_1 : Int) (h4096_2 : Int) (h4096_3 : ByteArray) (h4096_4 : List FV) (h4096_5 : List FV) : J_ref05_Is_3_0 R k w x1 h4096_0 h4096_1 h4096_2 h4096_3 h4096_4 h4096_5 = onL (L_ref05_Is_1_0 R k w k x1 0 h4096_0 h4096_1 h4096_2 h4096_3 h4096_4 h4096_5) (K_ref05_Is_1 R k w) := by kernel_rfl
theorem L_ref05_Is_1_0_eq (R : Orc) (k : Nat) (w : Bool) (n : Nat) (x1 : Int) (x7 : Int) (h4096_0 : Int) (h4096_1 : Int) (h4096_2 : Int) (h4096_3 : ByteArray) (h4096_4 : List FV) (h4096_5 : List FV) : L_ref05_Is_1_0 R k w (n + 1) x1 x7 h4096_0 h4096_1 h4096_2 h4096_3 h4096_4 h4096_5 = ifB (decide (x7 < (List.length h4096_5 : Int)))
  (when ((decide (0 ≤ x7)) && (decide (x7 < (List.length h4096_5 : Int)))) (when (FV.fits 1 false (List.getD h4096_5 (Int.toNat x7) FV.nilp)) (when (FV.isStr (List.getD h4096_5 (Int.toNat x7) FV.nilp)) (onR (R N_ref03_Signs [.fz (FV.str (FV.toStr (List.getD h4096_5 (Int.toNat x7) FV.nilp)))]) fun r3 => when (List.isEmpty r3.2 && allF [.fz, .fz] r3.1) (when (FV.isBool (TV.toF (List.getD r3.1 1 TV.em))) (ifB (!(FV.toBool (TV.toF (List.getD r3.1 1 TV.em))))
   (some (.ret, X_ref05_Is_1_0 x1 false h4096_0 h4096_1 h4096_2 h4096_3 h4096_4 h4096_5))
   (ifB (decide (x7 > 0))
    (when ((decide (0 ≤ x7)) && (decide (x7 < (List.length h4096_5 : Int)))) (when (FV.fits 1 false (List.getD h4096_5 (Int.toNat x7) FV.nilp)) (when (FV.isStr (List.getD h4096_5 (Int.toNat x7) FV.nilp)) (when ((decide (0 ≤ (IntKind.wrap .i64 (x7 - 1)))) && (decide ((IntKind.wrap .i64 (x7 - 1)) < (List.length h4096_5 : Int)))) (when (FV.fits 1 false (List.getD h4096_5 (Int.toNat (IntKind.wrap .i64 (x7 - 1))) FV.nilp)) (when (FV.isStr (List.getD h4096_5 (Int.toNat (IntKind.wrap .i64 (x7 - 1))) FV.nilp)) (ifB (Op.bytesLess (ByteArray.toList (FV.toStr (List.getD h4096_5 (Int.toNat x7) FV.nilp))) (ByteArray.toList (FV.toStr (List.getD h4096_5 (Int.toNat (IntKind.wrap .i64 (x7 - 1))) FV.nilp))) || ByteArray.toList (FV.toStr (List.getD h4096_5 (Int.toNat x7) FV.nilp)) == ByteArray.toList (FV.toStr (List.getD h4096_5 (Int.toNat (IntKind.wrap .i64 (x7 - 1))) FV.nilp)))
     (some (.ret, X_ref05_Is_1_0 x1 false h4096_0 h4096_1 h4096_2 h4096_3 h4096_4 h4096_5))
     (L_ref05_Is_1_0 R k w n x1 (IntKind.wrap .i64 (x7 + 1)) h4096_0 h4096_1 h4096_2 h4096_3 h4096_4 h4096_5))))))))
    (L_ref05_Is_1_0 R k w n x1 (IntKind.wrap .i64 (x7 + 1)) h4096_0 h4096_1 h4096_2 h4096_3 h4096_4 h4096_5))))))))
  (some ((.exit 0), X_ref05_Is_1_1 x1 h4096_0 h4096_1 h4096_2 h4096_3 h4096_4 h4096_5)) := by kernel_rfl
theorem X_ref05_Is_1_0_eq (R : Orc) (k : Nat) (w : Bool) (x1 : Int) (x4 : Bool) (h4096_0 : Int) (h4096_1 : Int) (h4096_2 : Int) (h4096_3 : ByteArray) (h4096_4 : List FV) (h4096_5 : List FV) : K_ref05_Is_1 R k w .ret (X_ref05_Is_1_0 x1 x4 h4096_0 h4096_1 h4096_2 h4096_3 h4096_4 h4096_5) = some ([.fz (FV.bool x4)], []) := by kernel_rfl
theorem X_ref05_Is_1_1_eq (R : Orc) (k : Nat) (w : Bool) (x1 : Int) (h4096_0 : Int) (h4096_1 : Int) (h4096_2 : Int) (h4096_3 : ByteArray) (h4096_4 : List FV) (h4096_5 : List FV) : K_ref05_Is_1 R k w (.exit 0) (X_ref05_Is_1_1 x1 h4096_0 h4096_1 h4096_2 h4096_3 h4096_4 h4096_5) = onL (L_ref05_Is_2_0 R k w k x1 0 h4096_0 h4096_1 h4096_2 h4096_3 h4096_4 h4096_5) (K_ref05_Is_2 R k w) := by kernel_rfl
theorem L_ref05_Is_2_0_eq (R : Orc) (k : Nat) (w : Bool) (n : Nat) (x1 : Int) (x10 : Int) (h4096_0 : Int) (h4096_1 : Int) (h4096_2 : Int) (h4096_3 : ByteArray) (h4096_4 : List FV) (h4096_5 : List FV) : L_ref05_Is_2_0 R k w (n + 1) x1 x10 h4096_0 h4096_1 h4096_2 h4096_3 h4096_4 h4096_5 = ifB (decide (x10 < (List.length h4096_4 : Int)))
  (when ((decide (0 ≤ x10)) && (decide (x10 < (List.length h4096_4 : Int)))) (when (FV.fits 6 true (List.getD h4096_4 (Int.toNat x10) FV.nilp)) (when (FV.isAg 6 (List.getD h4096_4 (Int.toNat x10) FV.nilp)) (when (FV.isInt .i64 (FV.cell (List.getD h4096_4 (Int.toNat x10) FV.nilp) 0)) (ifB ((FV.toInt (FV.cell (List.getD h4096_4 (Int.toNat x10) FV.nilp) 0)) == 7)
   (some (.ret, X_ref05_Is_2_0 false))
   (when ((decide (0 ≤ x10)) && (decide (x10 < (List.length h4096_4 : Int)))) (when (FV.fits 6 true (List.getD h4096_4 (Int.toNat x10) FV.nilp)) (onR (R N_ref05_Is [.fz (List.getD h4096_4 (Int.toNat x10) FV.nilp), .fz (FV.int .i64 (IntKind.wrap .i64 (x1 + 1)))]) fun r4 => when (List.isEmpty r4.2 && allF [.fz] r4.1) (when (FV.isBool (TV.toF (List.getD r4.1 0 TV.em))) (ifB (!(FV.toBool (TV.toF (List.getD r4.1 0 TV.em))))
    (some (.ret, X_ref05_Is_2_0 false))
    (L_ref05_Is_2_0 R k w n x1 (IntKind.wrap .i64 (x10 + 1)) h4096_0 h4096_1 h4096_2 h4096_3 h4096_4 h4096_5)))))))))))
  (some ((.exit 2), X_ref05_Is_2_1)) := by kernel_rfl
theorem X_ref05_Is_2_0_eq (R : Orc) (k : Nat) (w : Bool) (x4 : Bool) : K_ref05_Is_2 R k w .ret (X_ref05_Is_2_0 x4) = some ([.fz (FV.bool x4)], []) := by kernel_rfl
theorem X_ref05_Is_2_1_eq (R : Orc) (k : Nat) (w : Bool) : K_ref05_Is_2 R k w (.exit 2) (X_ref05_Is_2_1) = some ([.fz (FV.bool true)], []) := by kernel_rfl
/-! keyhole/keyholelaw05.lives -/
def A_law05_lives : AFunc := ⟨0, [(.tmp 0, .fz)], .seq (.region [⟨(some 0), .mov (.c (.fz (.bool false))), none, some .bool⟩])
 (.seq (.region [⟨(some 2), .build 6 [.fz (.int .i64 0), .fz (.int .i64 0), .fz (.int .i64 0), .fz (.str ⟨#[]⟩), .nils, .nils] [(0, 1, false, (.c (.fz (.int .i64 6))))], none, none⟩,
   ⟨(some 3), .call N_jval_Int [((.c (.fz (.int .i64 1))), .fz)] [.fz], none, none⟩,
   ⟨(some 4), .call N_jval_Put [((.t 2), .fz), ((.c (.fz (.str ⟨#[98]⟩))), .fz), ((.t 3), .fz)] [.fz], none, none⟩,
   ⟨(some 5), .call N_jval_Int [((.c (.fz (.int .i64 2))), .fz)] [.fz], none, none⟩,
   ⟨(some 6), .call N_jval_Put [((.t 4), .fz), ((.c (.fz (.str ⟨#[97]⟩))), .fz), ((.t 5), .fz)] [.fz], none, none⟩,
   ⟨(some 1), .alloc 6 true (.ag [.fz (.int .i64 0), .fz (.int .i64 0), .fz (.int .i64 0), .fz (.str ⟨#[]⟩), .nils, .nils]), none, none⟩,
   ⟨none, .store 6 true (.t 1) (.t 6), none, none⟩])
  (.seq (.region [⟨(some 7), .fadr 5 (.t 1), none, none⟩,
    ⟨(some 8), .load 1 false (.t 7), none, none⟩,
    ⟨(some 9), .len (.sl 1 false) (.t 8), none, some (.int .i64)⟩,
    ⟨(some 10), .binI .eql .i64 (.t 9) (.c (.fz (.int .i64 2))), none, some .bool⟩,
    ⟨(some 11), .mov (.t 10), none, some .bool⟩,
    ⟨(some 12), .fadr 4 (.t 1), (some (11, true)), none⟩,
    ⟨(some 13), .load 1 false (.t 12), (some (11, true)), none⟩,
    ⟨(some 14), .len (.sl 6 true) (.t 13), (some (11, true)), some (.int .i64)⟩,
    ⟨(some 15), .binI .eql .i64 (.t 14) (.c (.fz (.int .i64 2))), (some (11, true)), some .bool⟩,
    ⟨(some 16), .pick (.t 11) (.t 15) (.c (.fz (.bool false))), none, some .bool⟩,
    ⟨(some 17), .mov (.t 16), none, some .bool⟩,
    ⟨(some 18), .fadr 5 (.t 1), (some (17, true)), none⟩,
    ⟨(some 19), .load 1 false (.t 18), (some (17, true)), none⟩,
    ⟨(some 20), .iadr (.sl 1 false) (.t 19) (.c (.fz (.int .i64 0))), (some (17, true)), none⟩,
    ⟨(some 21), .load 1 false (.t 20), (some (17, true)), some .str⟩,
    ⟨(some 22), .binS .eql (.t 21) (.c (.fz (.str ⟨#[97]⟩))), (some (17, true)), some .bool⟩,
    ⟨(some 23), .pick (.t 17) (.t 22) (.c (.fz (.bool false))), none, some .bool⟩,
    ⟨(some 24), .mov (.t 23), none, some .bool⟩,
    ⟨(some 25), .fadr 4 (.t 1), (some (24, true)), none⟩,
    ⟨(some 26), .load 1 false (.t 25), (some (24, true)), none⟩,
    ⟨(some 27), .iadr (.sl 6 true) (.t 26) (.c (.fz (.int .i64 0))), (some (24, true)), none⟩,
    ⟨(some 28), .fadr 1 (.t 27), (some (24, true)), none⟩,
    ⟨(some 29), .fadr 0 (.t 28), (some (24, true)), none⟩,
    ⟨(some 30), .load 1 false (.t 29), (some (24, true)), some (.int .i64)⟩,
    ⟨(some 31), .binI .eql .i64 (.t 30) (.c (.fz (.int .i64 2))), (some (24, true)), some .bool⟩,
    ⟨(some 32), .pick (.t 24) (.t 31) (.c (.fz (.bool false))), none, some .bool⟩,
    ⟨(some 33), .mov (.t 32), none, some .bool⟩,
    ⟨(some 34), .fadr 5 (.t 1), (some (33, true)), none⟩,
    ⟨(some 35), .load 1 false (.t 34), (some (33, true)), none⟩,
    ⟨(some 36), .iadr (.sl 1 false) (.t 35) (.c (.fz (.int .i64 1))), (some (33, true)), none⟩,
    ⟨(some 37), .load 1 false (.t 36), (some (33, true)), some .str⟩,
    ⟨(some 38), .binS .eql (.t 37) (.c (.fz (.str ⟨#[98]⟩))), (some (33, true)), some .bool⟩,
    ⟨(some 39), .pick (.t 33) (.t 38) (.c (.fz (.bool false))), none, some .bool⟩,
    ⟨(some 0), .mov (.t 39), none, some .bool⟩])
   (.ret)))⟩
theorem E_law05_lives (R : Orc) (k : Nat) (w : Bool) : callL R k w A_law05_lives [] = onR (R N_jval_Int [.fz (FV.int .i64 1)]) fun r0 => when (List.isEmpty r0.2 && allF [.fz] r0.1) (onR (R N_jval_Put [.fz (FV.ag [(FV.int .i64 6), (FV.int .i64 0), (FV.int .i64 0), (FV.str (⟨#[]⟩ : ByteArray)), (FV.sl []), (FV.sl [])]), .fz (FV.str (⟨#[98]⟩ : ByteArray)), .fz (TV.toF (List.getD r0.1 0 TV.em))]) fun r1 => when (List.isEmpty r1.2 && allF [.fz] r1.1) (onR (R N_jval_Int [.fz (FV.int .i64 2)]) fun r2 => when (List.isEmpty r2.2 && allF [.fz] r2.1) (onR (R N_jval_Put [.fz (TV.toF (List.getD r1.1 0 TV.em)), .fz (FV.str (⟨#[97]⟩ : ByteArray)), .fz (TV.toF (List.getD r2.1 0 TV.em))]) fun r3 => when (List.isEmpty r3.2 && allF [.fz] r3.1) (when (FV.fits 6 true (TV.toF (List.getD r3.1 0 TV.em))) (when (FV.isAg 6 (TV.toF (List.getD r3.1 0 TV.em))) (when (FV.isSl (FV.cell (TV.toF (List.getD r3.1 0 TV.em)) 5)) (ifB ((List.length (FV.toSl (FV.cell (TV.toF (List.getD r3.1 0 TV.em)) 5)) : Int) == 2)
  (when (FV.isAg 6 (TV.toF (List.getD r3.1 0 TV.em))) (when (FV.isSl (FV.cell (TV.toF (List.getD r3.1 0 TV.em)) 4)) (ifB ((List.length (FV.toSl (FV.cell (TV.toF (List.getD r3.1 0 TV.em)) 4)) : Int) == 2)
   (when (FV.isAg 6 (TV.toF (List.getD r3.1 0 TV.em))) (when (FV.isSl (FV.cell (TV.toF (List.getD r3.1 0 TV.em)) 5)) (when (decide (0 < (List.length (FV.toSl (FV.cell (TV.toF (List.getD r3.1 0 TV.em)) 5)) : Int))) (when (FV.fits 1 false (List.getD (FV.toSl (FV.cell (TV.toF (List.getD r3.1 0 TV.em)) 5)) 0 FV.nilp)) (when (FV.isStr (List.getD (FV.toSl (FV.cell (TV.toF (List.getD r3.1 0 TV.em)) 5)) 0 FV.nilp)) (ifB (ByteArray.toList (FV.toStr (List.getD (FV.toSl (FV.cell (TV.toF (List.getD r3.1 0 TV.em)) 5)) 0 FV.nilp)) == ByteArray.toList (⟨#[97]⟩ : ByteArray))
    (when (FV.isAg 6 (TV.toF (List.getD r3.1 0 TV.em))) (when (FV.isSl (FV.cell (TV.toF (List.getD r3.1 0 TV.em)) 4)) (when (decide (0 < (List.length (FV.toSl (FV.cell (TV.toF (List.getD r3.1 0 TV.em)) 4)) : Int))) (when (FV.fits 6 true (List.getD (FV.toSl (FV.cell (TV.toF (List.getD r3.1 0 TV.em)) 4)) 0 FV.nilp)) (when (FV.isAg 6 (List.getD (FV.toSl (FV.cell (TV.toF (List.getD r3.1 0 TV.em)) 4)) 0 FV.nilp)) (when (FV.isInt .i64 (FV.cell (List.getD (FV.toSl (FV.cell (TV.toF (List.getD r3.1 0 TV.em)) 4)) 0 FV.nilp) 1)) (ifB ((FV.toInt (FV.cell (List.getD (FV.toSl (FV.cell (TV.toF (List.getD r3.1 0 TV.em)) 4)) 0 FV.nilp) 1)) == 2)
     (when (FV.isAg 6 (TV.toF (List.getD r3.1 0 TV.em))) (when (FV.isSl (FV.cell (TV.toF (List.getD r3.1 0 TV.em)) 5)) (when (decide (1 < (List.length (FV.toSl (FV.cell (TV.toF (List.getD r3.1 0 TV.em)) 5)) : Int))) (when (FV.fits 1 false (List.getD (FV.toSl (FV.cell (TV.toF (List.getD r3.1 0 TV.em)) 5)) 1 FV.nilp)) (when (FV.isStr (List.getD (FV.toSl (FV.cell (TV.toF (List.getD r3.1 0 TV.em)) 5)) 1 FV.nilp)) (some ([.fz (FV.bool (ByteArray.toList (FV.toStr (List.getD (FV.toSl (FV.cell (TV.toF (List.getD r3.1 0 TV.em)) 5)) 1 FV.nilp)) == ByteArray.toList (⟨#[98]⟩ : ByteArray)))], [])))))))
     (some ([.fz (FV.bool false)], [])))))))))
    (some ([.fz (FV.bool false)], []))))))))
   (some ([.fz (FV.bool false)], [])))))
  (some ([.fz (FV.bool false)], []))))))))) := by kernel_rfl
end Go.Ab
