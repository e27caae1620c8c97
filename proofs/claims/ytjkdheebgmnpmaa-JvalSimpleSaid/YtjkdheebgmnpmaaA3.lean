-- Written by a program of the session, out of the translation. Lean checks it.
import Derived.Test.YtjkdheebgmnpmaaA0
namespace Go.Ab
set_option linter.unusedVariables false
set_option maxRecDepth 100000
/-! keyhole/num.Int -/
def A_num_Int : AFunc := ⟨1, [(.cell 2 2 true, .fz), (.tmp 3, .fz)], .seq (.region [⟨(some 2), .alloc 2 true (.fz (.ag [.int .i64 0, .int .i64 0])), none, none⟩,
  ⟨(some 3), .mov (.c (.fz (.int .i64 0))), none, some (.int .i64)⟩])
 (.seq (.region [⟨(some 4), .mov (.t 0), none, some (.int .i64)⟩,
   ⟨(some 5), .call N_num_Make [((.t 4), .fz), ((.c (.fz (.int .i64 0))), .fz)] [.fz, .fz], none, none⟩,
   ⟨(some 6), .extract (.t 5) 0, none, none⟩,
   ⟨(some 7), .extract (.t 5) 1, none, some (.int .i64)⟩,
   ⟨none, .store 2 true (.t 2) (.t 6), none, none⟩,
   ⟨(some 3), .mov (.t 7), none, some (.int .i64)⟩])
  (.ret))⟩
theorem E_num_Int (R : Orc) (k : Nat) (w : Bool) (a0 : Int) : callL R k w A_num_Int [.fz (FV.int .i64 a0)] = onR (R N_num_Make [.fz (FV.int .i64 a0), .fz (FV.int .i64 0)]) fun r0 => when (List.isEmpty r0.2 && allF [.fz, .fz] r0.1) (when (FV.isInt .i64 (TV.toF (List.getD r0.1 1 TV.em))) (when (FV.fits 2 true (TV.toF (List.getD r0.1 0 TV.em))) (some ([.fz (TV.toF (List.getD r0.1 0 TV.em)), .fz (FV.int .i64 (FV.toInt (TV.toF (List.getD r0.1 1 TV.em))))], [])))) := by kernel_rfl
/-! keyhole/jval.is -/
def A_jval_is_j1 : ACode := .cond (.t 24) (.seq (.region [⟨(some 27), .load 6 true (.t 2), none, none⟩,
   ⟨(some 28), .call N_jval_bare [((.t 27), .fz), ((.c (.fz (.bool false))), .fz), ((.c (.fz (.bool true))), .fz), ((.c (.fz (.bool false))), .fz), ((.c (.fz (.bool false))), .fz)] [.fz], none, some .bool⟩,
   ⟨(some 29), .mov (.t 28), none, some .bool⟩,
   ⟨(some 30), .fadr 3 (.t 2), (some (29, true)), none⟩,
   ⟨(some 31), .load 1 false (.t 30), (some (29, true)), some .str⟩,
   ⟨(some 32), .call N_utf_Valid [((.t 31), .fz)] [.fz], (some (29, true)), some .bool⟩,
   ⟨(some 33), .pick (.t 29) (.t 32) (.c (.fz (.bool false))), none, some .bool⟩,
   ⟨(some 4), .mov (.t 33), none, some .bool⟩])
  (.ret))
 (.seq (.region [⟨(some 35), .binI .eql .i64 (.t 8) (.c (.fz (.int .i64 5))), none, some .bool⟩,
   ⟨(some 34), .mov (.t 35), none, some .bool⟩])
  (.cond (.t 34) (.seq (.region [⟨(some 36), .load 6 true (.t 2), none, none⟩,
     ⟨(some 37), .call N_jval_bare [((.t 36), .fz), ((.c (.fz (.bool false))), .fz), ((.c (.fz (.bool false))), .fz), ((.c (.fz (.bool true))), .fz), ((.c (.fz (.bool false))), .fz)] [.fz], none, some .bool⟩,
     ⟨(some 38), .mov (.t 37), none, some .bool⟩,
     ⟨(some 39), .fadr 4 (.t 2), (some (38, true)), none⟩,
     ⟨(some 40), .load 1 false (.t 39), (some (38, true)), none⟩,
     ⟨(some 41), .mov (.t 1), (some (38, true)), some (.int .i64)⟩,
     ⟨(some 42), .binI .add .i64 (.t 41) (.c (.fz (.int .i64 1))), (some (38, true)), some (.int .i64)⟩,
     ⟨(some 43), .call N_jval_items [((.t 40), .fz), ((.t 42), .fz)] [.fz], (some (38, true)), some .bool⟩,
     ⟨(some 44), .pick (.t 38) (.t 43) (.c (.fz (.bool false))), none, some .bool⟩,
     ⟨(some 4), .mov (.t 44), none, some .bool⟩])
    (.ret))
   (.seq (.region [⟨(some 46), .binI .eql .i64 (.t 8) (.c (.fz (.int .i64 6))), none, some .bool⟩,
     ⟨(some 45), .mov (.t 46), none, some .bool⟩])
    (.cond (.t 45) (.seq (.region [⟨(some 47), .load 6 true (.t 2), none, none⟩,
       ⟨(some 48), .call N_jval_bare [((.t 47), .fz), ((.c (.fz (.bool false))), .fz), ((.c (.fz (.bool false))), .fz), ((.c (.fz (.bool true))), .fz), ((.c (.fz (.bool true))), .fz)] [.fz], none, some .bool⟩,
       ⟨(some 49), .mov (.t 48), none, some .bool⟩,
       ⟨(some 50), .fadr 5 (.t 2), (some (49, true)), none⟩,
       ⟨(some 51), .load 1 false (.t 50), (some (49, true)), none⟩,
       ⟨(some 52), .len (.sl 1 false) (.t 51), (some (49, true)), some (.int .i64)⟩,
       ⟨(some 53), .fadr 4 (.t 2), (some (49, true)), none⟩,
       ⟨(some 54), .load 1 false (.t 53), (some (49, true)), none⟩,
       ⟨(some 55), .len (.sl 6 true) (.t 54), (some (49, true)), some (.int .i64)⟩,
       ⟨(some 56), .binI .eql .i64 (.t 52) (.t 55), (some (49, true)), some .bool⟩,
       ⟨(some 57), .pick (.t 49) (.t 56) (.c (.fz (.bool false))), none, some .bool⟩,
       ⟨(some 58), .mov (.t 57), none, some .bool⟩,
       ⟨(some 59), .fadr 5 (.t 2), (some (58, true)), none⟩,
       ⟨(some 60), .load 1 false (.t 59), (some (58, true)), none⟩,
       ⟨(some 61), .call N_jval_rising [((.t 60), .fz)] [.fz], (some (58, true)), some .bool⟩,
       ⟨(some 62), .pick (.t 58) (.t 61) (.c (.fz (.bool false))), none, some .bool⟩,
       ⟨(some 63), .mov (.t 62), none, some .bool⟩,
       ⟨(some 64), .fadr 4 (.t 2), (some (63, true)), none⟩,
       ⟨(some 65), .load 1 false (.t 64), (some (63, true)), none⟩,
       ⟨(some 66), .mov (.t 1), (some (63, true)), some (.int .i64)⟩,
       ⟨(some 67), .binI .add .i64 (.t 66) (.c (.fz (.int .i64 1))), (some (63, true)), some (.int .i64)⟩,
       ⟨(some 68), .call N_jval_items [((.t 65), .fz), ((.t 67), .fz)] [.fz], (some (63, true)), some .bool⟩,
       ⟨(some 69), .pick (.t 63) (.t 68) (.c (.fz (.bool false))), none, some .bool⟩,
       ⟨(some 4), .mov (.t 69), none, some .bool⟩])
      (.ret))
     (.skip)))))
def A_jval_is_j2 : ACode := .cond (.t 9) (.seq (.region [⟨(some 13), .load 6 true (.t 2), none, none⟩,
   ⟨(some 14), .call N_jval_bare [((.t 13), .fz), ((.c (.fz (.bool false))), .fz), ((.c (.fz (.bool false))), .fz), ((.c (.fz (.bool false))), .fz), ((.c (.fz (.bool false))), .fz)] [.fz], none, some .bool⟩,
   ⟨(some 4), .mov (.t 14), none, some .bool⟩])
  (.ret))
 (.seq (.region [⟨(some 16), .binI .eql .i64 (.t 8) (.c (.fz (.int .i64 3))), none, some .bool⟩,
   ⟨(some 15), .mov (.t 16), none, some .bool⟩])
  (.cond (.t 15) (.seq (.region [⟨(some 17), .load 6 true (.t 2), none, none⟩,
     ⟨(some 18), .call N_jval_bare [((.t 17), .fz), ((.c (.fz (.bool true))), .fz), ((.c (.fz (.bool false))), .fz), ((.c (.fz (.bool false))), .fz), ((.c (.fz (.bool false))), .fz)] [.fz], none, some .bool⟩,
     ⟨(some 19), .mov (.t 18), none, some .bool⟩,
     ⟨(some 20), .fadr 1 (.t 2), (some (19, true)), none⟩,
     ⟨(some 21), .load 2 true (.t 20), (some (19, true)), none⟩,
     ⟨(some 22), .call N_num_Is [((.t 21), .fz)] [.fz], (some (19, true)), some .bool⟩,
     ⟨(some 23), .pick (.t 19) (.t 22) (.c (.fz (.bool false))), none, some .bool⟩,
     ⟨(some 4), .mov (.t 23), none, some .bool⟩])
    (.ret))
   (.seq (.seq (.region [⟨(some 25), .binI .eql .i64 (.t 8) (.c (.fz (.int .i64 4))), none, some .bool⟩,
      ⟨(some 24), .mov (.t 25), none, some .bool⟩])
     (.cond (.t 24) (.skip)
      (.region [⟨(some 26), .binI .eql .i64 (.t 8) (.c (.fz (.int .i64 7))), none, some .bool⟩,
       ⟨(some 24), .mov (.t 26), none, some .bool⟩])))
    (.trim [1, 2, 8, 24] A_jval_is_j1))))
def A_jval_is_s3 : ACode := .seq (.region [⟨(some 4), .mov (.c (.fz (.bool false))), none, some .bool⟩])
 (.ret)
def A_jval_is : AFunc := ⟨2, [(.tmp 4, .fz)], .seq (.region [⟨(some 2), .box 6 true (.t 0), none, none⟩,
  ⟨(some 4), .mov (.c (.fz (.bool false))), none, some .bool⟩])
 (.seq (.seq (.region [⟨(some 5), .mov (.t 1), none, some (.int .i64)⟩,
    ⟨(some 6), .binI .gtr .i64 (.t 5) (.c (.fz (.int .i64 32))), none, some .bool⟩])
   (.cond (.t 6) (.seq (.region [⟨(some 4), .mov (.c (.fz (.bool false))), none, some .bool⟩])
     (.ret))
    (.skip)))
  (.seq (.seq (.region [⟨(some 7), .fadr 0 (.t 2), none, none⟩,
     ⟨(some 8), .load 1 false (.t 7), none, some (.int .i64)⟩])
    (.block 0 (.seq (.seq (.region [⟨(some 10), .binI .eql .i64 (.t 8) (.c (.fz (.int .i64 0))), none, some .bool⟩,
        ⟨(some 9), .mov (.t 10), none, some .bool⟩])
       (.cond (.t 9) (.skip)
        (.seq (.region [⟨(some 11), .binI .eql .i64 (.t 8) (.c (.fz (.int .i64 1))), none, some .bool⟩,
          ⟨(some 9), .mov (.t 11), none, some .bool⟩])
         (.cond (.t 9) (.skip)
          (.region [⟨(some 12), .binI .eql .i64 (.t 8) (.c (.fz (.int .i64 2))), none, some .bool⟩,
           ⟨(some 9), .mov (.t 12), none, some .bool⟩])))))
      (.trim [1, 2, 8, 9] A_jval_is_j2))))
   A_jval_is_s3))⟩
def J_jval_is_2_0 (R : Orc) (k : Nat) (w : Bool) (x1 : Int) (x8 : Int) (x9 : Bool) (h4096_0 : Int) (h4096_1 : Int) (h4096_2 : Int) (h4096_3 : ByteArray) (h4096_4 : List FV) (h4096_5 : List FV) := execL R k w [] A_jval_is_j2 Ans ⟨[(1, .fz (FV.int .i64 x1)), (2, .ptr 4096 0 0), (8, .fz (FV.int .i64 x8)), (9, .fz (FV.bool x9))], [(4095, .dead), (4096, .var 6 true (.fz (FV.ag [(FV.int .i64 h4096_0), (FV.int .i64 h4096_1), (FV.int .i64 h4096_2), (FV.str h4096_3), (FV.sl h4096_4), (FV.sl h4096_5)])))]⟩ (kBlk 0 (kSeq R k w [] A_jval_is_s3 (kFin R [(.tmp 4, .fz)] [])))
def J_jval_is_1_0 (R : Orc) (k : Nat) (w : Bool) (x1 : Int) (x8 : Int) (x24 : Bool) (h4096_0 : Int) (h4096_1 : Int) (h4096_2 : Int) (h4096_3 : ByteArray) (h4096_4 : List FV) (h4096_5 : List FV) := execL R k w [] A_jval_is_j1 Ans ⟨[(1, .fz (FV.int .i64 x1)), (2, .ptr 4096 0 0), (8, .fz (FV.int .i64 x8)), (24, .fz (FV.bool x24))], [(4095, .dead), (4096, .var 6 true (.fz (FV.ag [(FV.int .i64 h4096_0), (FV.int .i64 h4096_1), (FV.int .i64 h4096_2), (FV.str h4096_3), (FV.sl h4096_4), (FV.sl h4096_5)])))]⟩ (kBlk 0 (kSeq R k w [] A_jval_is_s3 (kFin R [(.tmp 4, .fz)] [])))
theorem E_jval_is (R : Orc) (k : Nat) (w : Bool) (a0_0 : Int) (a0_1_0 : Int) (a0_1_1 : Int) (a0_2 : ByteArray) (a0_3 : List FV) (a0_4 : List FV) (a1 : Int) : callL R k w A_jval_is [.fz (FV.ag [(FV.int .i64 a0_0), (FV.int .i64 a0_1_0), (FV.int .i64 a0_1_1), (FV.str a0_2), (FV.sl a0_3), (FV.sl a0_4)]), .fz (FV.int .i64 a1)] = ifB (decide (a1 > 32))
  (some ([.fz (FV.bool false)], []))
  (ifB (a0_0 == 0)
   (jump w (J_jval_is_2_0 R k w a1 a0_0 true a0_0 a0_1_0 a0_1_1 a0_2 a0_3 a0_4))
   (ifB (a0_0 == 1)
    (jump w (J_jval_is_2_0 R k w a1 a0_0 true a0_0 a0_1_0 a0_1_1 a0_2 a0_3 a0_4))
    (jump w (J_jval_is_2_0 R k w a1 a0_0 (a0_0 == 2) a0_0 a0_1_0 a0_1_1 a0_2 a0_3 a0_4)))) := by kernel_rfl
theorem J_jval_is_2_0_eq (R : Orc) (k : Nat) (w : Bool) (x1 : Int) (x8 : Int) (x9 : Bool) (h4096_0 : Int) (h4096_1 : Int) (h4096_2 : Int) (h4096_3 : ByteArray) (h4096_4 : List FV) (h4096_5 : List FV) : J_jval_is_2_0 R k w x1 x8 x9 h4096_0 h4096_1 h4096_2 h4096_3 h4096_4 h4096_5 = ifB x9
  (onR (R N_jval_bare [.fz (FV.ag [(FV.int .i64 h4096_0), (FV.int .i64 h4096_1), (FV.int .i64 h4096_2), (FV.str h4096_3), (FV.sl h4096_4), (FV.sl h4096_5)]), .fz (FV.bool false), .fz (FV.bool false), .fz (FV.bool false), .fz (FV.bool false)]) fun r0 => when (List.isEmpty r0.2 && allF [.fz] r0.1) (when (FV.isBool (TV.toF (List.getD r0.1 0 TV.em))) (some ([.fz (FV.bool (FV.toBool (TV.toF (List.getD r0.1 0 TV.em))))], []))))
  (ifB (x8 == 3)
   (onR (R N_jval_bare [.fz (FV.ag [(FV.int .i64 h4096_0), (FV.int .i64 h4096_1), (FV.int .i64 h4096_2), (FV.str h4096_3), (FV.sl h4096_4), (FV.sl h4096_5)]), .fz (FV.bool true), .fz (FV.bool false), .fz (FV.bool false), .fz (FV.bool false)]) fun r1 => when (List.isEmpty r1.2 && allF [.fz] r1.1) (when (FV.isBool (TV.toF (List.getD r1.1 0 TV.em))) (ifB (FV.toBool (TV.toF (List.getD r1.1 0 TV.em)))
    (onR (R N_num_Is [.fz (FV.ag [(FV.int .i64 h4096_1), (FV.int .i64 h4096_2)])]) fun r2 => when (List.isEmpty r2.2 && allF [.fz] r2.1) (when (FV.isBool (TV.toF (List.getD r2.1 0 TV.em))) (some ([.fz (FV.bool (FV.toBool (TV.toF (List.getD r2.1 0 TV.em))))], []))))
    (some ([.fz (FV.bool false)], [])))))
   (ifB (x8 == 4)
    (jump w (J_jval_is_1_0 R k w x1 x8 true h4096_0 h4096_1 h4096_2 h4096_3 h4096_4 h4096_5))
    (jump w (J_jval_is_1_0 R k w x1 x8 (x8 == 7) h4096_0 h4096_1 h4096_2 h4096_3 h4096_4 h4096_5)))) := by kernel_rfl
theorem J_jval_is_1_0_eq (R : Orc) (k : Nat) (w : Bool) (x1 : Int) (x8 : Int) (x24 : Bool) (h4096_0 : Int) (h4096_1 : Int) (h4096_2 : Int) (h4096_3 : ByteArray) (h4096_4 : List FV) (h4096_5 : List FV) : J_jval_is_1_0 R k w x1 x8 x24 h4096_0 h4096_1 h4096_2 h4096_3 h4096_4 h4096_5 = ifB x24
  (onR (R N_jval_bare [.fz (FV.ag [(FV.int .i64 h4096_0), (FV.int .i64 h4096_1), (FV.int .i64 h4096_2), (FV.str h4096_3), (FV.sl h4096_4), (FV.sl h4096_5)]), .fz (FV.bool false), .fz (FV.bool true), .fz (FV.bool false), .fz (FV.bool false)]) fun r3 => when (List.isEmpty r3.2 && allF [.fz] r3.1) (when (FV.isBool (TV.toF (List.getD r3.1 0 TV.em))) (ifB (FV.toBool (TV.toF (List.getD r3.1 0 TV.em)))
   (onR (R N_utf_Valid [.fz (FV.str h4096_3)]) fun r4 => when (List.isEmpty r4.2 && allF [.fz] r4.1) (when (FV.isBool (TV.toF (List.getD r4.1 0 TV.em))) (some ([.fz (FV.bool (FV.toBool (TV.toF (List.getD r4.1 0 TV.em))))], []))))
   (some ([.fz (FV.bool false)], [])))))
  (ifB (x8 == 5)
   (onR (R N_jval_bare [.fz (FV.ag [(FV.int .i64 h4096_0), (FV.int .i64 h4096_1), (FV.int .i64 h4096_2), (FV.str h4096_3), (FV.sl h4096_4), (FV.sl h4096_5)]), .fz (FV.bool false), .fz (FV.bool false), .fz (FV.bool true), .fz (FV.bool false)]) fun r5 => when (List.isEmpty r5.2 && allF [.fz] r5.1) (when (FV.isBool (TV.toF (List.getD r5.1 0 TV.em))) (ifB (FV.toBool (TV.toF (List.getD r5.1 0 TV.em)))
    (onR (R N_jval_items [.fz (FV.sl h4096_4), .fz (FV.int .i64 (IntKind.wrap .i64 (x1 + 1)))]) fun r6 => when (List.isEmpty r6.2 && allF [.fz] r6.1) (when (FV.isBool (TV.toF (List.getD r6.1 0 TV.em))) (some ([.fz (FV.bool (FV.toBool (TV.toF (List.getD r6.1 0 TV.em))))], []))))
    (some ([.fz (FV.bool false)], [])))))
   (ifB (x8 == 6)
    (onR (R N_jval_bare [.fz (FV.ag [(FV.int .i64 h4096_0), (FV.int .i64 h4096_1), (FV.int .i64 h4096_2), (FV.str h4096_3), (FV.sl h4096_4), (FV.sl h4096_5)]), .fz (FV.bool false), .fz (FV.bool false), .fz (FV.bool true), .fz (FV.bool true)]) fun r7 => when (List.isEmpty r7.2 && allF [.fz] r7.1) (when (FV.isBool (TV.toF (List.getD r7.1 0 TV.em))) (ifB (FV.toBool (TV.toF (List.getD r7.1 0 TV.em)))
     (ifB ((List.length h4096_5 : Int) == (List.length h4096_4 : Int))
      (onR (R N_jval_rising [.fz (FV.sl h4096_5)]) fun r8 => when (List.isEmpty r8.2 && allF [.fz] r8.1) (when (FV.isBool (TV.toF (List.getD r8.1 0 TV.em))) (ifB (FV.toBool (TV.toF (List.getD r8.1 0 TV.em)))
       (onR (R N_jval_items [.fz (FV.sl h4096_4), .fz (FV.int .i64 (IntKind.wrap .i64 (x1 + 1)))]) fun r9 => when (List.isEmpty r9.2 && allF [.fz] r9.1) (when (FV.isBool (TV.toF (List.getD r9.1 0 TV.em))) (some ([.fz (FV.bool (FV.toBool (TV.toF (List.getD r9.1 0 TV.em))))], []))))
       (some ([.fz (FV.bool false)], [])))))
      (some ([.fz (FV.bool false)], [])))
     (some ([.fz (FV.bool false)], [])))))
    (some ([.fz (FV.bool false)], [])))) := by kernel_rfl
/-! keyhole/keyholeref03.Put -/
def A_ref03_Put : AFunc := ⟨1, [(.tmp 2, .fz)], .seq (.region [⟨(some 2), .mov (.c (.nils)), none, none⟩])
 (.seq (.seq (.region [⟨(some 3), .mov (.t 0), none, some (.int .i64)⟩,
    ⟨(some 4), .binI .lss .i64 (.t 3) (.c (.fz (.int .i64 128))), none, some .bool⟩])
   (.cond (.t 4) (.seq (.region [⟨(some 5), .mov (.t 0), none, some (.int .i64)⟩,
      ⟨(some 6), .conv .i64 .u8 (.t 5), none, some (.int .u8)⟩,
      ⟨(some 7), .buildSl 1 false 1 (.int .u8 0) [(0, (.t 6))], none, none⟩,
      ⟨(some 2), .mov (.t 7), none, none⟩])
     (.ret))
    (.skip)))
  (.seq (.seq (.region [⟨(some 8), .mov (.t 0), none, some (.int .i64)⟩,
     ⟨(some 9), .binI .lss .i64 (.t 8) (.c (.fz (.int .i64 2048))), none, some .bool⟩])
    (.cond (.t 9) (.seq (.region [⟨(some 10), .mov (.t 0), none, some (.int .i64)⟩,
       ⟨(some 11), .binI .quo .i64 (.t 10) (.c (.fz (.int .i64 64))), none, some (.int .i64)⟩,
       ⟨(some 12), .binI .add .i64 (.c (.fz (.int .i64 192))) (.t 11), none, some (.int .i64)⟩,
       ⟨(some 13), .conv .i64 .u8 (.t 12), none, some (.int .u8)⟩,
       ⟨(some 14), .mov (.t 0), none, some (.int .i64)⟩,
       ⟨(some 15), .binI .rem .i64 (.t 14) (.c (.fz (.int .i64 64))), none, some (.int .i64)⟩,
       ⟨(some 16), .binI .add .i64 (.c (.fz (.int .i64 128))) (.t 15), none, some (.int .i64)⟩,
       ⟨(some 17), .conv .i64 .u8 (.t 16), none, some (.int .u8)⟩,
       ⟨(some 18), .buildSl 1 false 2 (.int .u8 0) [(0, (.t 13)), (1, (.t 17))], none, none⟩,
       ⟨(some 2), .mov (.t 18), none, none⟩])
      (.ret))
     (.skip)))
   (.seq (.seq (.region [⟨(some 19), .mov (.t 0), none, some (.int .i64)⟩,
      ⟨(some 20), .binI .lss .i64 (.t 19) (.c (.fz (.int .i64 65536))), none, some .bool⟩])
     (.cond (.t 20) (.seq (.region [⟨(some 21), .mov (.t 0), none, some (.int .i64)⟩,
        ⟨(some 22), .binI .quo .i64 (.t 21) (.c (.fz (.int .i64 4096))), none, some (.int .i64)⟩,
        ⟨(some 23), .binI .add .i64 (.c (.fz (.int .i64 224))) (.t 22), none, some (.int .i64)⟩,
        ⟨(some 24), .conv .i64 .u8 (.t 23), none, some (.int .u8)⟩,
        ⟨(some 25), .mov (.t 0), none, some (.int .i64)⟩,
        ⟨(some 26), .binI .quo .i64 (.t 25) (.c (.fz (.int .i64 64))), none, some (.int .i64)⟩,
        ⟨(some 27), .binI .rem .i64 (.t 26) (.c (.fz (.int .i64 64))), none, some (.int .i64)⟩,
        ⟨(some 28), .binI .add .i64 (.c (.fz (.int .i64 128))) (.t 27), none, some (.int .i64)⟩,
        ⟨(some 29), .conv .i64 .u8 (.t 28), none, some (.int .u8)⟩,
        ⟨(some 30), .mov (.t 0), none, some (.int .i64)⟩,
        ⟨(some 31), .binI .rem .i64 (.t 30) (.c (.fz (.int .i64 64))), none, some (.int .i64)⟩,
        ⟨(some 32), .binI .add .i64 (.c (.fz (.int .i64 128))) (.t 31), none, some (.int .i64)⟩,
        ⟨(some 33), .conv .i64 .u8 (.t 32), none, some (.int .u8)⟩,
        ⟨(some 34), .buildSl 1 false 3 (.int .u8 0) [(0, (.t 24)), (1, (.t 29)), (2, (.t 33))], none, none⟩,
        ⟨(some 2), .mov (.t 34), none, none⟩])
       (.ret))
      (.skip)))
    (.seq (.region [⟨(some 35), .mov (.t 0), none, some (.int .i64)⟩,
      ⟨(some 36), .binI .quo .i64 (.t 35) (.c (.fz (.int .i64 262144))), none, some (.int .i64)⟩,
      ⟨(some 37), .binI .add .i64 (.c (.fz (.int .i64 240))) (.t 36), none, some (.int .i64)⟩,
      ⟨(some 38), .conv .i64 .u8 (.t 37), none, some (.int .u8)⟩,
      ⟨(some 39), .mov (.t 0), none, some (.int .i64)⟩,
      ⟨(some 40), .binI .quo .i64 (.t 39) (.c (.fz (.int .i64 4096))), none, some (.int .i64)⟩,
      ⟨(some 41), .binI .rem .i64 (.t 40) (.c (.fz (.int .i64 64))), none, some (.int .i64)⟩,
      ⟨(some 42), .binI .add .i64 (.c (.fz (.int .i64 128))) (.t 41), none, some (.int .i64)⟩,
      ⟨(some 43), .conv .i64 .u8 (.t 42), none, some (.int .u8)⟩,
      ⟨(some 44), .mov (.t 0), none, some (.int .i64)⟩,
      ⟨(some 45), .binI .quo .i64 (.t 44) (.c (.fz (.int .i64 64))), none, some (.int .i64)⟩,
      ⟨(some 46), .binI .rem .i64 (.t 45) (.c (.fz (.int .i64 64))), none, some (.int .i64)⟩,
      ⟨(some 47), .binI .add .i64 (.c (.fz (.int .i64 128))) (.t 46), none, some (.int .i64)⟩,
      ⟨(some 48), .conv .i64 .u8 (.t 47), none, some (.int .u8)⟩,
      ⟨(some 49), .mov (.t 0), none, some (.int .i64)⟩,
      ⟨(some 50), .binI .rem .i64 (.t 49) (.c (.fz (.int .i64 64))), none, some (.int .i64)⟩,
      ⟨(some 51), .binI .add .i64 (.c (.fz (.int .i64 128))) (.t 50), none, some (.int .i64)⟩,
      ⟨(some 52), .conv .i64 .u8 (.t 51), none, some (.int .u8)⟩,
      ⟨(some 53), .buildSl 1 false 4 (.int .u8 0) [(0, (.t 38)), (1, (.t 43)), (2, (.t 48)), (3, (.t 52))], none, none⟩,
      ⟨(some 2), .mov (.t 53), none, none⟩])
     (.ret)))))⟩
theorem E_ref03_Put (R : Orc) (k : Nat) (w : Bool) (a0 : Int) : callL R k w A_ref03_Put [.fz (FV.int .i64 a0)] = ifB (decide (a0 < 128))
  (some ([.fz (FV.sl [(FV.int .u8 (IntKind.wrap .u8 a0))])], []))
  (ifB (decide (a0 < 2048))
   (some ([.fz (FV.sl [(FV.int .u8 (IntKind.wrap .u8 (IntKind.wrap .i64 (192 + (IntKind.wrap .i64 (Int.tdiv a0 64)))))), (FV.int .u8 (IntKind.wrap .u8 (IntKind.wrap .i64 (128 + (Int.tmod a0 64)))))])], []))
   (ifB (decide (a0 < 65536))
    (some ([.fz (FV.sl [(FV.int .u8 (IntKind.wrap .u8 (IntKind.wrap .i64 (224 + (IntKind.wrap .i64 (Int.tdiv a0 4096)))))), (FV.int .u8 (IntKind.wrap .u8 (IntKind.wrap .i64 (128 + (Int.tmod (IntKind.wrap .i64 (Int.tdiv a0 64)) 64))))), (FV.int .u8 (IntKind.wrap .u8 (IntKind.wrap .i64 (128 + (Int.tmod a0 64)))))])], []))
    (some ([.fz (FV.sl [(FV.int .u8 (IntKind.wrap .u8 (IntKind.wrap .i64 (240 + (IntKind.wrap .i64 (Int.tdiv a0 262144)))))), (FV.int .u8 (IntKind.wrap .u8 (IntKind.wrap .i64 (128 + (Int.tmod (IntKind.wrap .i64 (Int.tdiv a0 4096)) 64))))), (FV.int .u8 (IntKind.wrap .u8 (IntKind.wrap .i64 (128 + (Int.tmod (IntKind.wrap .i64 (Int.tdiv a0 64)) 64))))), (FV.int .u8 (IntKind.wrap .u8 (IntKind.wrap .i64 (128 + (Int.tmod a0 64)))))])], [])))) := by kernel_rfl
/-! keyhole/num.Make -/
def A_num_Make_j1 : ACode := .block 1 (.seq (.region [⟨(some 21), .mov (.t 0), none, some (.int .i64)⟩,
   ⟨(some 22), .binI .quo .i64 (.t 21) (.c (.fz (.int .i64 10))), none, some (.int .i64)⟩,
   ⟨(some 0), .mov (.t 22), none, some (.int .i64)⟩])
  (.region [⟨(some 23), .mov (.t 1), none, some (.int .i64)⟩,
   ⟨(some 24), .binI .sub .i64 (.t 23) (.c (.fz (.int .i64 1))), none, some (.int .i64)⟩,
   ⟨(some 1), .mov (.t 24), none, some (.int .i64)⟩]))
def A_num_Make_b1 : ACode := .seq (.seq (.region [⟨(some 14), .mov (.t 1), none, some (.int .i64)⟩,
   ⟨(some 15), .binI .gtr .i64 (.t 14) (.c (.fz (.int .i64 0))), none, some .bool⟩,
   ⟨(some 16), .mov (.t 15), none, some .bool⟩,
   ⟨(some 17), .mov (.t 0), (some (16, true)), some (.int .i64)⟩,
   ⟨(some 18), .binI .rem .i64 (.t 17) (.c (.fz (.int .i64 10))), (some (16, true)), some (.int .i64)⟩,
   ⟨(some 19), .binI .eql .i64 (.t 18) (.c (.fz (.int .i64 0))), (some (16, true)), some .bool⟩,
   ⟨(some 20), .pick (.t 16) (.t 19) (.c (.fz (.bool false))), none, some .bool⟩])
  (.cond (.t 20) (.skip)
   (.exit 0)))
 (.trim [0, 1, 4] A_num_Make_j1)
def A_num_Make_s2 : ACode := .seq (.region [⟨(some 25), .mov (.t 0), none, some (.int .i64)⟩,
  ⟨(some 26), .mov (.t 1), none, some (.int .i64)⟩,
  ⟨(some 27), .build 2 [.fz (.int .i64 0), .fz (.int .i64 0)] [(0, 1, false, (.t 25)), (1, 1, false, (.t 26))], none, none⟩,
  ⟨(some 6), .alloc 2 true (.fz (.ag [.int .i64 0, .int .i64 0])), none, none⟩,
  ⟨none, .store 2 true (.t 6) (.t 27), none, none⟩])
 (.seq (.seq (.region [⟨(some 28), .load 2 true (.t 6), none, none⟩,
    ⟨(some 29), .call N_num_Is [((.t 28), .fz)] [.fz], none, some .bool⟩,
    ⟨(some 30), .notB (.t 29), none, some .bool⟩])
   (.cond (.t 30) (.seq (.region [⟨(some 31), .build 2 [.fz (.int .i64 0), .fz (.int .i64 0)] [], none, none⟩,
      ⟨none, .store 2 true (.t 4) (.t 31), none, none⟩,
      ⟨(some 5), .mov (.c (.fz (.int .i64 8))), none, some (.int .i64)⟩])
     (.ret))
    (.skip)))
  (.seq (.region [⟨(some 32), .load 2 true (.t 6), none, none⟩,
    ⟨none, .store 2 true (.t 4) (.t 32), none, none⟩,
    ⟨(some 5), .mov (.c (.fz (.int .i64 0))), none, some (.int .i64)⟩])
   (.ret)))
def A_num_Make_j3 : ACode := .seq (.block 0 (.loop [0, 1, 4] [0, 1, 4] A_num_Make_b1))
 A_num_Make_s2
def A_num_Make : AFunc := ⟨2, [(.cell 4 2 true, .fz), (.tmp 5, .fz)], .seq (.region [⟨(some 4), .alloc 2 true (.fz (.ag [.int .i64 0, .int .i64 0])), none, none⟩,
  ⟨(some 5), .mov (.c (.fz (.int .i64 0))), none, some (.int .i64)⟩])
 (.seq (.seq (.region [⟨(some 7), .mov (.t 1), none, some (.int .i64)⟩,
    ⟨(some 8), .binI .lss .i64 (.t 7) (.c (.fz (.int .i64 0))), none, some .bool⟩,
    ⟨(some 9), .mov (.t 8), none, some .bool⟩,
    ⟨(some 10), .mov (.t 1), (some (9, false)), some (.int .i64)⟩,
    ⟨(some 11), .binI .gtr .i64 (.t 10) (.c (.fz (.int .i64 30))), (some (9, false)), some .bool⟩,
    ⟨(some 12), .pick (.t 9) (.c (.fz (.bool true))) (.t 11), none, some .bool⟩])
   (.cond (.t 12) (.seq (.region [⟨(some 13), .build 2 [.fz (.int .i64 0), .fz (.int .i64 0)] [], none, none⟩,
      ⟨none, .store 2 true (.t 4) (.t 13), none, none⟩,
      ⟨(some 5), .mov (.c (.fz (.int .i64 8))), none, some (.int .i64)⟩])
     (.ret))
    (.skip)))
  (.trim [0, 1, 4] A_num_Make_j3))⟩
def J_num_Make_3_0 (R : Orc) (k : Nat) (w : Bool) (x0 : Int) (x1 : Int) (h4096_0 : Int) (h4096_1 : Int) := execL R k w [] A_num_Make_j3 Ans ⟨[(0, .fz (FV.int .i64 x0)), (1, .fz (FV.int .i64 x1)), (4, .ptr 4096 0 0)], [(4095, .dead), (4096, .var 2 true (.fz (FV.ag [(FV.int .i64 h4096_0), (FV.int .i64 h4096_1)])))]⟩ (kFin R [(.cell 4 2 true, .fz), (.tmp 5, .fz)] [])
def K_num_Make_1 (R : Orc) (k : Nat) (w : Bool) : AExit → St → Option Ans := (kBlk 0 (kSeq R k w [] A_num_Make_s2 (kFin R [(.cell 4 2 true, .fz), (.tmp 5, .fz)] [])))
def L_num_Make_1_0 (R : Orc) (k : Nat) (w : Bool) (n : Nat) (x0 : Int) (x1 : Int) (h4096_0 : Int) (h4096_1 : Int) := loopL R k w [] [0, 1, 4] [0, 1, 4] A_num_Make_b1 n ⟨[(0, .fz (FV.int .i64 x0)), (1, .fz (FV.int .i64 x1)), (4, .ptr 4096 0 0)], [(4095, .dead), (4096, .var 2 true (.fz (FV.ag [(FV.int .i64 h4096_0), (FV.int .i64 h4096_1)])))]⟩
def J_num_Make_1_0 (R : Orc) (k : Nat) (w : Bool) (n : Nat) (x0 : Int) (x1 : Int) (h4096_0 : Int) (h4096_1 : Int) := execL R k w [] A_num_Make_j1 (AExit × St) ⟨[(0, .fz (FV.int .i64 x0)), (1, .fz (FV.int .i64 x1)), (4, .ptr 4096 0 0)], [(4095, .dead), (4096, .var 2 true (.fz (FV.ag [(FV.int .i64 h4096_0), (FV.int .i64 h4096_1)])))]⟩ (kLoop R k w [] [0, 1, 4] [0, 1, 4] A_num_Make_b1 n)
def X_num_Make_1_0 (x0 : Int) (x1 : Int) (h4096_0 : Int) (h4096_1 : Int) : St := ⟨[(0, .fz (FV.int .i64 x0)), (1, .fz (FV.int .i64 x1)), (4, .ptr 4096 0 0)], [(4095, .dead), (4096, .var 2 true (.fz (FV.ag [(FV.int .i64 h4096_0), (FV.int .i64 h4096_1)])))]⟩
theorem E_num_Make (R : Orc) (k : Nat) (w : Bool) (a0 : Int) (a1 : Int) : callL R k w A_num_Make [.fz (FV.int .i64 a0), .fz (FV.int .i64 a1)] = ifB (decide (a1 < 0))
  (some ([.fz (FV.ag [(FV.int .i64 0), (FV.int .i64 0)]), .fz (FV.int .i64 8)], []))
  (ifB (decide (a1 > 30))
   (some ([.fz (FV.ag [(FV.int .i64 0), (FV.int .i64 0)]), .fz (FV.int .i64 8)], []))
   (jump w (J_num_Make_3_0 R k w a0 a1 0 0))) := by kernel_rfl
theorem J_num_Make_3_0_eq (R : Orc) (k : Nat) (w : Bool) (x0 : Int) (x1 : Int) (h4096_0 : Int) (h4096_1 : Int) : J_num_Make_3_0 R k w x0 x1 h4096_0 h4096_1 = onL (L_num_Make_1_0 R k w k x0 x1 h4096_0 h4096_1) (K_num_Make_1 R k w) := by kernel_rfl
theorem L_num_Make_1_0_eq (R : Orc) (k : Nat) (w : Bool) (n : Nat) (x0 : Int) (x1 : Int) (h4096_0 : Int) (h4096_1 : Int) : L_num_Make_1_0 R k w (n + 1) x0 x1 h4096_0 h4096_1 = ifB (decide (x1 > 0))
  (ifB ((Int.tmod x0 10) == 0)
   (jump w (J_num_Make_1_0 R k w n x0 x1 h4096_0 h4096_1))
   (some ((.exit 0), X_num_Make_1_0 x0 x1 h4096_0 h4096_1)))
  (some ((.exit 0), X_num_Make_1_0 x0 x1 h4096_0 h4096_1)) := by kernel_rfl
theorem J_num_Make_1_0_eq (R : Orc) (k : Nat) (w : Bool) (n : Nat) (x0 : Int) (x1 : Int) (h4096_0 : Int) (h4096_1 : Int) : J_num_Make_1_0 R k w n x0 x1 h4096_0 h4096_1 = L_num_Make_1_0 R k w n (IntKind.wrap .i64 (Int.tdiv x0 10)) (IntKind.wrap .i64 (x1 - 1)) h4096_0 h4096_1 := by kernel_rfl
theorem X_num_Make_1_0_eq (R : Orc) (k : Nat) (w : Bool) (x0 : Int) (x1 : Int) (h4096_0 : Int) (h4096_1 : Int) : K_num_Make_1 R k w (.exit 0) (X_num_Make_1_0 x0 x1 h4096_0 h4096_1) = onR (R N_num_Is [.fz (FV.ag [(FV.int .i64 x0), (FV.int .i64 x1)])]) fun r0 => when (List.isEmpty r0.2 && allF [.fz] r0.1) (when (FV.isBool (TV.toF (List.getD r0.1 0 TV.em))) (ifB (!(FV.toBool (TV.toF (List.getD r0.1 0 TV.em))))
  (some ([.fz (FV.ag [(FV.int .i64 0), (FV.int .i64 0)]), .fz (FV.int .i64 8)], []))
  (some ([.fz (FV.ag [(FV.int .i64 x0), (FV.int .i64 x1)]), .fz (FV.int .i64 0)], [])))) := by kernel_rfl
/-! keyhole/jval.bare -/
def A_jval_bare : AFunc := ⟨5, [(.tmp 10, .fz)], .seq (.region [⟨(some 5), .box 6 true (.t 0), none, none⟩,
  ⟨(some 10), .mov (.c (.fz (.bool false))), none, some .bool⟩])
 (.seq (.region [⟨(some 11), .mov (.t 1), none, some .bool⟩,
   ⟨(some 12), .mov (.t 11), none, some .bool⟩,
   ⟨(some 13), .fadr 1 (.t 5), (some (12, false)), none⟩,
   ⟨(some 14), .load 2 true (.t 13), (some (12, false)), none⟩,
   ⟨(some 15), .build 2 [.fz (.int .i64 0), .fz (.int .i64 0)] [], (some (12, false)), none⟩,
   ⟨(some 16), .eqA false [.int .i64, .int .i64] (.t 14) (.t 15), (some (12, false)), some .bool⟩,
   ⟨(some 17), .pick (.t 12) (.c (.fz (.bool true))) (.t 16), none, some .bool⟩,
   ⟨(some 18), .mov (.t 17), none, some .bool⟩,
   ⟨(some 19), .mov (.t 2), (some (18, true)), some .bool⟩,
   ⟨(some 20), .mov (.t 19), (some (18, true)), some .bool⟩,
   ⟨(some 21), .fadr 3 (.t 5), (some (20, false)), none⟩,
   ⟨(some 22), .load 1 false (.t 21), (some (20, false)), some .str⟩,
   ⟨(some 23), .binS .eql (.t 22) (.c (.fz (.str ⟨#[]⟩))), (some (20, false)), some .bool⟩,
   ⟨(some 24), .pick (.t 20) (.c (.fz (.bool true))) (.t 23), (some (18, true)), some .bool⟩,
   ⟨(some 25), .pick (.t 18) (.t 24) (.c (.fz (.bool false))), none, some .bool⟩,
   ⟨(some 26), .mov (.t 25), none, some .bool⟩,
   ⟨(some 27), .mov (.t 3), (some (26, true)), some .bool⟩,
   ⟨(some 28), .mov (.t 27), (some (26, true)), some .bool⟩,
   ⟨(some 29), .fadr 4 (.t 5), (some (28, false)), none⟩,
   ⟨(some 30), .load 1 false (.t 29), (some (28, false)), none⟩,
   ⟨(some 31), .len (.sl 6 true) (.t 30), (some (28, false)), some (.int .i64)⟩,
   ⟨(some 32), .binI .eql .i64 (.t 31) (.c (.fz (.int .i64 0))), (some (28, false)), some .bool⟩,
   ⟨(some 33), .pick (.t 28) (.c (.fz (.bool true))) (.t 32), (some (26, true)), some .bool⟩,
   ⟨(some 34), .pick (.t 26) (.t 33) (.c (.fz (.bool false))), none, some .bool⟩,
   ⟨(some 35), .mov (.t 34), none, some .bool⟩,
   ⟨(some 36), .mov (.t 4), (some (35, true)), some .bool⟩,
   ⟨(some 37), .mov (.t 36), (some (35, true)), some .bool⟩,
   ⟨(some 38), .fadr 5 (.t 5), (some (37, false)), none⟩,
   ⟨(some 39), .load 1 false (.t 38), (some (37, false)), none⟩,
   ⟨(some 40), .len (.sl 1 false) (.t 39), (some (37, false)), some (.int .i64)⟩,
   ⟨(some 41), .binI .eql .i64 (.t 40) (.c (.fz (.int .i64 0))), (some (37, false)), some .bool⟩,
   ⟨(some 42), .pick (.t 37) (.c (.fz (.bool true))) (.t 41), (some (35, true)), some .bool⟩,
   ⟨(some 43), .pick (.t 35) (.t 42) (.c (.fz (.bool false))), none, some .bool⟩,
   ⟨(some 10), .mov (.t 43), none, some .bool⟩])
  (.ret))⟩
theorem E_jval_bare (R : Orc) (k : Nat) (w : Bool) (a0_0 : Int) (a0_1_0 : Int) (a0_1_1 : Int) (a0_2 : ByteArray) (a0_3 : List FV) (a0_4 : List FV) (a1 : Bool) (a2 : Bool) (a3 : Bool) (a4 : Bool) : callL R k w A_jval_bare [.fz (FV.ag [(FV.int .i64 a0_0), (FV.int .i64 a0_1_0), (FV.int .i64 a0_1_1), (FV.str a0_2), (FV.sl a0_3), (FV.sl a0_4)]), .fz (FV.bool a1), .fz (FV.bool a2), .fz (FV.bool a3), .fz (FV.bool a4)] = ifB a1
  (ifB a2
   (ifB a3
    (ifB a4
     (some ([.fz (FV.bool true)], []))
     (some ([.fz (FV.bool ((List.length a0_4 : Int) == 0))], [])))
    (ifB ((List.length a0_3 : Int) == 0)
     (ifB a4
      (some ([.fz (FV.bool true)], []))
      (some ([.fz (FV.bool ((List.length a0_4 : Int) == 0))], [])))
     (some ([.fz (FV.bool false)], []))))
   (ifB (ByteArray.toList a0_2 == ByteArray.toList (⟨#[]⟩ : ByteArray))
    (ifB a3
     (ifB a4
      (some ([.fz (FV.bool true)], []))
      (some ([.fz (FV.bool ((List.length a0_4 : Int) == 0))], [])))
     (ifB ((List.length a0_3 : Int) == 0)
      (ifB a4
       (some ([.fz (FV.bool true)], []))
       (some ([.fz (FV.bool ((List.length a0_4 : Int) == 0))], [])))
      (some ([.fz (FV.bool false)], []))))
    (some ([.fz (FV.bool false)], []))))
  (ifB ((a0_1_0 == 0) && ((a0_1_1 == 0) && true))
   (ifB a2
    (ifB a3
     (ifB a4
      (some ([.fz (FV.bool true)], []))
      (some ([.fz (FV.bool ((List.length a0_4 : Int) == 0))], [])))
     (ifB ((List.length a0_3 : Int) == 0)
      (ifB a4
       (some ([.fz (FV.bool true)], []))
       (some ([.fz (FV.bool ((List.length a0_4 : Int) == 0))], [])))
      (some ([.fz (FV.bool false)], []))))
    (ifB (ByteArray.toList a0_2 == ByteArray.toList (⟨#[]⟩ : ByteArray))
     (ifB a3
      (ifB a4
       (some ([.fz (FV.bool true)], []))
       (some ([.fz (FV.bool ((List.length a0_4 : Int) == 0))], [])))
      (ifB ((List.length a0_3 : Int) == 0)
       (ifB a4
        (some ([.fz (FV.bool true)], []))
        (some ([.fz (FV.bool ((List.length a0_4 : Int) == 0))], [])))
       (some ([.fz (FV.bool false)], []))))
     (some ([.fz (FV.bool false)], []))))
   (some ([.fz (FV.bool false)], []))) := by kernel_rfl
/-! keyhole/num.Is -/
def A_num_Is_j1 : ACode := .seq (.region [⟨(some 21), .fadr 1 (.t 1), none, none⟩,
  ⟨(some 22), .load 1 false (.t 21), none, some (.int .i64)⟩,
  ⟨(some 23), .binI .eql .i64 (.t 22) (.c (.fz (.int .i64 0))), none, some .bool⟩,
  ⟨(some 24), .mov (.t 23), none, some .bool⟩,
  ⟨(some 25), .fadr 0 (.t 1), (some (24, false)), none⟩,
  ⟨(some 26), .load 1 false (.t 25), (some (24, false)), some (.int .i64)⟩,
  ⟨(some 27), .binI .rem .i64 (.t 26) (.c (.fz (.int .i64 10))), (some (24, false)), some (.int .i64)⟩,
  ⟨(some 28), .binI .neq .i64 (.t 27) (.c (.fz (.int .i64 0))), (some (24, false)), some .bool⟩,
  ⟨(some 29), .pick (.t 24) (.c (.fz (.bool true))) (.t 28), none, some .bool⟩,
  ⟨(some 2), .mov (.t 29), none, some .bool⟩])
 (.ret)
def A_num_Is : AFunc := ⟨1, [(.tmp 2, .fz)], .seq (.region [⟨(some 1), .box 2 true (.t 0), none, none⟩,
  ⟨(some 2), .mov (.c (.fz (.bool false))), none, some .bool⟩])
 (.seq (.seq (.region [⟨(some 3), .fadr 1 (.t 1), none, none⟩,
    ⟨(some 4), .load 1 false (.t 3), none, some (.int .i64)⟩,
    ⟨(some 5), .binI .lss .i64 (.t 4) (.c (.fz (.int .i64 0))), none, some .bool⟩,
    ⟨(some 6), .mov (.t 5), none, some .bool⟩,
    ⟨(some 7), .fadr 1 (.t 1), (some (6, false)), none⟩,
    ⟨(some 8), .load 1 false (.t 7), (some (6, false)), some (.int .i64)⟩,
    ⟨(some 9), .binI .gtr .i64 (.t 8) (.c (.fz (.int .i64 9))), (some (6, false)), some .bool⟩,
    ⟨(some 10), .pick (.t 6) (.c (.fz (.bool true))) (.t 9), none, some .bool⟩,
    ⟨(some 11), .mov (.t 10), none, some .bool⟩,
    ⟨(some 12), .fadr 0 (.t 1), (some (11, false)), none⟩,
    ⟨(some 13), .load 1 false (.t 12), (some (11, false)), some (.int .i64)⟩,
    ⟨(some 14), .binI .leq .i64 (.t 13) (.c (.fz (.int .i64 (-1000000000000000)))), (some (11, false)), some .bool⟩,
    ⟨(some 15), .pick (.t 11) (.c (.fz (.bool true))) (.t 14), none, some .bool⟩,
    ⟨(some 16), .mov (.t 15), none, some .bool⟩,
    ⟨(some 17), .fadr 0 (.t 1), (some (16, false)), none⟩,
    ⟨(some 18), .load 1 false (.t 17), (some (16, false)), some (.int .i64)⟩,
    ⟨(some 19), .binI .geq .i64 (.t 18) (.c (.fz (.int .i64 1000000000000000))), (some (16, false)), some .bool⟩,
    ⟨(some 20), .pick (.t 16) (.c (.fz (.bool true))) (.t 19), none, some .bool⟩])
   (.cond (.t 20) (.seq (.region [⟨(some 2), .mov (.c (.fz (.bool false))), none, some .bool⟩])
     (.ret))
    (.skip)))
  (.trim [1] A_num_Is_j1))⟩
def J_num_Is_1_0 (R : Orc) (k : Nat) (w : Bool) (h4096_0 : Int) (h4096_1 : Int) := execL R k w [] A_num_Is_j1 Ans ⟨[(1, .ptr 4096 0 0)], [(4095, .dead), (4096, .var 2 true (.fz (FV.ag [(FV.int .i64 h4096_0), (FV.int .i64 h4096_1)])))]⟩ (kFin R [(.tmp 2, .fz)] [])
theorem E_num_Is (R : Orc) (k : Nat) (w : Bool) (a0_0 : Int) (a0_1 : Int) : callL R k w A_num_Is [.fz (FV.ag [(FV.int .i64 a0_0), (FV.int .i64 a0_1)])] = ifB (decide (a0_1 < 0))
  (some ([.fz (FV.bool false)], []))
  (ifB (decide (a0_1 > 9))
   (some ([.fz (FV.bool false)], []))
   (ifB (decide (a0_0 ≤ (-1000000000000000)))
    (some ([.fz (FV.bool false)], []))
    (ifB (decide (a0_0 ≥ 1000000000000000))
     (some ([.fz (FV.bool false)], []))
     (jump w (J_num_Is_1_0 R k w a0_0 a0_1))))) := by kernel_rfl
theorem J_num_Is_1_0_eq (R : Orc) (k : Nat) (w : Bool) (h4096_0 : Int) (h4096_1 : Int) : J_num_Is_1_0 R k w h4096_0 h4096_1 = ifB (h4096_1 == 0)
  (some ([.fz (FV.bool true)], []))
  (some ([.fz (FV.bool ((Int.tmod h4096_0 10) != 0))], [])) := by kernel_rfl
/-! keyhole/utf.Valid -/
def A_utf_Valid_b1 : ACode := .seq (.seq (.region [⟨(some 4), .mov (.t 0), none, some .str⟩,
   ⟨(some 5), .binS .neq (.t 4) (.c (.fz (.str ⟨#[]⟩))), none, some .bool⟩])
  (.cond (.t 5) (.skip)
   (.exit 0)))
 (.block 1 (.seq (.region [⟨(some 6), .mov (.t 0), none, some .str⟩,
    ⟨(some 7), .call N_utf_size [((.t 6), .fz)] [.fz], none, some (.int .i64)⟩,
    ⟨(some 3), .mov (.t 7), none, some (.int .i64)⟩])
   (.seq (.seq (.region [⟨(some 8), .mov (.t 3), none, some (.int .i64)⟩,
      ⟨(some 9), .binI .eql .i64 (.t 8) (.c (.fz (.int .i64 0))), none, some .bool⟩])
     (.cond (.t 9) (.seq (.region [⟨(some 2), .mov (.c (.fz (.bool false))), none, some .bool⟩])
       (.ret))
      (.skip)))
    (.region [⟨(some 10), .mov (.t 0), none, some .str⟩,
     ⟨(some 11), .mov (.t 3), none, some (.int .i64)⟩,
     ⟨(some 12), .slice .str (.t 10) (some (.t 11)) none none, none, some .str⟩,
     ⟨(some 0), .mov (.t 12), none, some .str⟩]))))
def A_utf_Valid_s1 : ACode := .seq (.region [⟨(some 2), .mov (.c (.fz (.bool true))), none, some .bool⟩])
 (.ret)
def A_utf_Valid : AFunc := ⟨1, [(.tmp 2, .fz)], .seq (.region [⟨(some 2), .mov (.c (.fz (.bool false))), none, some .bool⟩])
 (.seq (.block 0 (.loop [0] [2] A_utf_Valid_b1))
  A_utf_Valid_s1)⟩
def K_utf_Valid_1 (R : Orc) (k : Nat) (w : Bool) : AExit → St → Option Ans := (kBlk 0 (kSeq R k w [] A_utf_Valid_s1 (kFin R [(.tmp 2, .fz)] [])))
def L_utf_Valid_1_0 (R : Orc) (k : Nat) (w : Bool) (n : Nat) (x0 : ByteArray) := loopL R k w [] [0] [2] A_utf_Valid_b1 n ⟨[(0, .fz (FV.str x0))], [(4095, .dead)]⟩
def X_utf_Valid_1_0 (x2 : Bool) : St := ⟨[(2, .fz (FV.bool x2))], [(4095, .dead)]⟩
def X_utf_Valid_1_1 : St := ⟨[], [(4095, .dead)]⟩
theorem E_utf_Valid (R : Orc) (k : Nat) (w : Bool) (a0 : ByteArray) : callL R k w A_utf_Valid [.fz (FV.str a0)] = onL (L_utf_Valid_1_0 R k w k a0) (K_utf_Valid_1 R k w) := by kernel_rfl
theorem L_utf_Valid_1_0_eq (R : Orc) (k : Nat) (w : Bool) (n : Nat) (x0 : ByteArray) : L_utf_Valid_1_0 R k w (n + 1) x0 = ifB (!(ByteArray.toList x0 == ByteArray.toList (⟨#[]⟩ : ByteArray)))
  (onR (R N_utf_size [.fz (FV.str x0)]) fun r0 => when (List.isEmpty r0.2 && allF [.fz] r0.1) (when (FV.isInt .i64 (TV.toF (List.getD r0.1 0 TV.em))) (ifB ((FV.toInt (TV.toF (List.getD r0.1 0 TV.em))) == 0)
   (some (.ret, X_utf_Valid_1_0 false))
   (when (decide (0 ≤ (ByteArray.size x0 : Int)) && decide ((ByteArray.size x0 : Int) ≤ (ByteArray.size x0 : Int))) (when (decide (0 ≤ (FV.toInt (TV.toF (List.getD r0.1 0 TV.em)))) && decide ((FV.toInt (TV.toF (List.getD r0.1 0 TV.em))) ≤ (ByteArray.size x0 : Int))) (L_utf_Valid_1_0 R k w n (ByteArray.extract x0 (Int.toNat (FV.toInt (TV.toF (List.getD r0.1 0 TV.em)))) (Int.toNat (ByteArray.size x0 : Int)))))))))
  (some ((.exit 0), X_utf_Valid_1_1)) := by kernel_rfl
theorem X_utf_Valid_1_0_eq (R : Orc) (k : Nat) (w : Bool) (x2 : Bool) : K_utf_Valid_1 R k w .ret (X_utf_Valid_1_0 x2) = some ([.fz (FV.bool x2)], []) := by kernel_rfl
theorem X_utf_Valid_1_1_eq (R : Orc) (k : Nat) (w : Bool) : K_utf_Valid_1 R k w (.exit 0) (X_utf_Valid_1_1) = some ([.fz (FV.bool true)], []) := by kernel_rfl
/-! keyhole/jval.items -/
def A_jval_items_b1 : ACode := .seq (.region [⟨(some 10), .binI .lss .i64 (.t 9) (.t 8), none, none⟩])
 (.seq (.cond (.t 10) (.skip)
   (.exit 0))
  (.seq (.block 1 (.seq (.region [⟨(some 11), .iadr (.sl 6 true) (.t 7) (.t 9), none, none⟩,
      ⟨(some 12), .load 6 true (.t 11), none, none⟩,
      ⟨(some 6), .alloc 6 true (.ag [.fz (.int .i64 0), .fz (.int .i64 0), .fz (.int .i64 0), .fz (.str ⟨#[]⟩), .nils, .nils]), none, none⟩,
      ⟨none, .store 6 true (.t 6) (.t 12), none, none⟩])
     (.seq (.region [⟨(some 13), .fadr 0 (.t 6), none, none⟩,
       ⟨(some 14), .load 1 false (.t 13), none, some (.int .i64)⟩,
       ⟨(some 15), .binI .eql .i64 (.t 14) (.c (.fz (.int .i64 7))), none, some .bool⟩,
       ⟨(some 16), .mov (.t 15), none, some .bool⟩,
       ⟨(some 17), .load 6 true (.t 6), (some (16, false)), none⟩,
       ⟨(some 18), .mov (.t 1), (some (16, false)), some (.int .i64)⟩,
       ⟨(some 19), .call N_jval_is [((.t 17), .fz), ((.t 18), .fz)] [.fz], (some (16, false)), some .bool⟩,
       ⟨(some 20), .notB (.t 19), (some (16, false)), some .bool⟩,
       ⟨(some 21), .pick (.t 16) (.c (.fz (.bool true))) (.t 20), none, some .bool⟩])
      (.cond (.t 21) (.seq (.region [⟨(some 4), .mov (.c (.fz (.bool false))), none, some .bool⟩])
        (.ret))
       (.skip)))))
   (.region [⟨(some 22), .binI .add .i64 (.t 9) (.c (.fz (.int .i64 1))), none, some (.int .i64)⟩,
    ⟨(some 9), .mov (.t 22), none, some (.int .i64)⟩])))
def A_jval_items_s1 : ACode := .seq (.region [⟨(some 4), .mov (.c (.fz (.bool true))), none, some .bool⟩])
 (.ret)
def A_jval_items : AFunc := ⟨2, [(.tmp 4, .fz)], .seq (.region [⟨(some 4), .mov (.c (.fz (.bool false))), none, some .bool⟩])
 (.seq (.seq (.region [⟨(some 7), .mov (.t 0), none, none⟩,
    ⟨(some 8), .len (.sl 6 true) (.t 7), none, some (.int .i64)⟩,
    ⟨(some 9), .mov (.c (.fz (.int .i64 0))), none, some (.int .i64)⟩])
   (.block 0 (.loop [1, 7, 8, 9] [4] A_jval_items_b1)))
  A_jval_items_s1)⟩
def K_jval_items_1 (R : Orc) (k : Nat) (w : Bool) : AExit → St → Option Ans := (kBlk 0 (kSeq R k w [] A_jval_items_s1 (kFin R [(.tmp 4, .fz)] [])))
def L_jval_items_1_0 (R : Orc) (k : Nat) (w : Bool) (n : Nat) (x1 : Int) (x7 : List FV) (x8 : Int) (x9 : Int) := loopL R k w [] [1, 7, 8, 9] [4] A_jval_items_b1 n ⟨[(1, .fz (FV.int .i64 x1)), (7, .fz (FV.sl x7)), (8, .fz (FV.int .i64 x8)), (9, .fz (FV.int .i64 x9))], [(4095, .dead)]⟩
def X_jval_items_1_0 (x4 : Bool) : St := ⟨[(4, .fz (FV.bool x4))], [(4095, .dead)]⟩
def X_jval_items_1_1 : St := ⟨[], [(4095, .dead)]⟩
theorem E_jval_items (R : Orc) (k : Nat) (w : Bool) (a0 : List FV) (a1 : Int) : callL R k w A_jval_items [.fz (FV.sl a0), .fz (FV.int .i64 a1)] = onL (L_jval_items_1_0 R k w k a1 a0 (List.length a0 : Int) 0) (K_jval_items_1 R k w) := by kernel_rfl
theorem L_jval_items_1_0_eq (R : Orc) (k : Nat) (w : Bool) (n : Nat) (x1 : Int) (x7 : List FV) (x8 : Int) (x9 : Int) : L_jval_items_1_0 R k w (n + 1) x1 x7 x8 x9 = ifB (decide (x9 < x8))
  (when ((decide (0 ≤ x9)) && (decide (x9 < (List.length x7 : Int)))) (when (FV.fits 6 true (List.getD x7 (Int.toNat x9) FV.nilp)) (when (FV.fits 6 true (List.getD x7 (Int.toNat x9) FV.nilp)) (when (FV.isAg 6 (List.getD x7 (Int.toNat x9) FV.nilp)) (when (FV.isInt .i64 (FV.cell (List.getD x7 (Int.toNat x9) FV.nilp) 0)) (ifB ((FV.toInt (FV.cell (List.getD x7 (Int.toNat x9) FV.nilp) 0)) == 7)
   (some (.ret, X_jval_items_1_0 false))
   (onR (R N_jval_is [.fz (List.getD x7 (Int.toNat x9) FV.nilp), .fz (FV.int .i64 x1)]) fun r0 => when (List.isEmpty r0.2 && allF [.fz] r0.1) (when (FV.isBool (TV.toF (List.getD r0.1 0 TV.em))) (ifB (!(FV.toBool (TV.toF (List.getD r0.1 0 TV.em))))
    (some (.ret, X_jval_items_1_0 false))
    (L_jval_items_1_0 R k w n x1 x7 x8 (IntKind.wrap .i64 (x9 + 1))))))))))))
  (some ((.exit 0), X_jval_items_1_1)) := by kernel_rfl
theorem X_jval_items_1_0_eq (R : Orc) (k : Nat) (w : Bool) (x4 : Bool) : K_jval_items_1 R k w .ret (X_jval_items_1_0 x4) = some ([.fz (FV.bool x4)], []) := by kernel_rfl
theorem X_jval_items_1_1_eq (R : Orc) (k : Nat) (w : Bool) : K_jval_items_1 R k w (.exit 0) (X_jval_items_1_1) = some ([.fz (FV.bool true)], []) := by kernel_rfl
/-! keyhole/jval.rising -/
def A_jval_rising_b1 : ACode := .seq (.region [⟨(some 8), .binI .lss .i64 (.t 7) (.t 6), none, none⟩])
 (.seq (.cond (.t 8) (.skip)
   (.exit 0))
  (.seq (.block 1 (.seq (.region [⟨(some 9), .mov (.t 7), none, some (.int .i64)⟩,
      ⟨(some 10), .iadr (.sl 1 false) (.t 5) (.t 7), none, none⟩,
      ⟨(some 11), .load 1 false (.t 10), none, some .str⟩,
      ⟨(some 3), .mov (.t 9), none, some (.int .i64)⟩,
      ⟨(some 4), .mov (.t 11), none, some .str⟩])
     (.seq (.region [⟨(some 12), .mov (.t 4), none, some .str⟩,
       ⟨(some 13), .call N_utf_Valid [((.t 12), .fz)] [.fz], none, some .bool⟩,
       ⟨(some 14), .notB (.t 13), none, some .bool⟩,
       ⟨(some 15), .mov (.t 14), none, some .bool⟩,
       ⟨(some 16), .mov (.t 3), (some (15, false)), some (.int .i64)⟩,
       ⟨(some 17), .binI .gtr .i64 (.t 16) (.c (.fz (.int .i64 0))), (some (15, false)), some .bool⟩,
       ⟨(some 18), .mov (.t 17), (some (15, false)), some .bool⟩,
       ⟨(some 19), .mov (.t 4), (some (18, true)), some .str⟩,
       ⟨(some 20), .mov (.t 0), (some (18, true)), none⟩,
       ⟨(some 21), .mov (.t 3), (some (18, true)), some (.int .i64)⟩,
       ⟨(some 22), .binI .sub .i64 (.t 21) (.c (.fz (.int .i64 1))), (some (18, true)), some (.int .i64)⟩,
       ⟨(some 23), .iadr (.sl 1 false) (.t 20) (.t 22), (some (18, true)), none⟩,
       ⟨(some 24), .load 1 false (.t 23), (some (18, true)), some .str⟩,
       ⟨(some 25), .binS .leq (.t 19) (.t 24), (some (18, true)), some .bool⟩,
       ⟨(some 26), .pick (.t 18) (.t 25) (.c (.fz (.bool false))), (some (15, false)), some .bool⟩,
       ⟨(some 27), .pick (.t 15) (.c (.fz (.bool true))) (.t 26), none, some .bool⟩])
      (.cond (.t 27) (.seq (.region [⟨(some 2), .mov (.c (.fz (.bool false))), none, some .bool⟩])
        (.ret))
       (.skip)))))
   (.region [⟨(some 28), .binI .add .i64 (.t 7) (.c (.fz (.int .i64 1))), none, some (.int .i64)⟩,
    ⟨(some 7), .mov (.t 28), none, some (.int .i64)⟩])))
def A_jval_rising_s1 : ACode := .seq (.region [⟨(some 2), .mov (.c (.fz (.bool true))), none, some .bool⟩])
 (.ret)
def A_jval_rising : AFunc := ⟨1, [(.tmp 2, .fz)], .seq (.region [⟨(some 2), .mov (.c (.fz (.bool false))), none, some .bool⟩])
 (.seq (.seq (.region [⟨(some 5), .mov (.t 0), none, none⟩,
    ⟨(some 6), .len (.sl 1 false) (.t 5), none, some (.int .i64)⟩,
    ⟨(some 7), .mov (.c (.fz (.int .i64 0))), none, some (.int .i64)⟩])
   (.block 0 (.loop [0, 5, 6, 7] [2] A_jval_rising_b1)))
  A_jval_rising_s1)⟩
def K_jval_rising_1 (R : Orc) (k : Nat) (w : Bool) : AExit → St → Option Ans := (kBlk 0 (kSeq R k w [] A_jval_rising_s1 (kFin R [(.tmp 2, .fz)] [])))
def L_jval_rising_1_0 (R : Orc) (k : Nat) (w : Bool) (n : Nat) (x0 : List FV) (x5 : List FV) (x6 : Int) (x7 : Int) := loopL R k w [] [0, 5, 6, 7] [2] A_jval_rising_b1 n ⟨[(0, .fz (FV.sl x0)), (5, .fz (FV.sl x5)), (6, .fz (FV.int .i64 x6)), (7, .fz (FV.int .i64 x7))], [(4095, .dead)]⟩
def X_jval_rising_1_0 (x2 : Bool) : St := ⟨[(2, .fz (FV.bool x2))], [(4095, .dead)]⟩
def X_jval_rising_1_1 : St := ⟨[], [(4095, .dead)]⟩
theorem E_jval_rising (R : Orc) (k : Nat) (w : Bool) (a0 : List FV) : callL R k w A_jval_rising [.fz (FV.sl a0)] = onL (L_jval_rising_1_0 R k w k a0 a0 (List.length a0 : Int) 0) (K_jval_rising_1 R k w) := by kernel_rfl
theorem L_jval_rising_1_0_eq (R : Orc) (k : Nat) (w : Bool) (n : Nat) (x0 : List FV) (x5 : List FV) (x6 : Int) (x7 : Int) : L_jval_rising_1_0 R k w (n + 1) x0 x5 x6 x7 = ifB (decide (x7 < x6))
  (when ((decide (0 ≤ x7)) && (decide (x7 < (List.length x5 : Int)))) (when (FV.fits 1 false (List.getD x5 (Int.toNat x7) FV.nilp)) (when (FV.isStr (List.getD x5 (Int.toNat x7) FV.nilp)) (onR (R N_utf_Valid [.fz (FV.str (FV.toStr (List.getD x5 (Int.toNat x7) FV.nilp)))]) fun r0 => when (List.isEmpty r0.2 && allF [.fz] r0.1) (when (FV.isBool (TV.toF (List.getD r0.1 0 TV.em))) (ifB (!(FV.toBool (TV.toF (List.getD r0.1 0 TV.em))))
   (some (.ret, X_jval_rising_1_0 false))
   (ifB (decide (x7 > 0))
    (when ((decide (0 ≤ (IntKind.wrap .i64 (x7 - 1)))) && (decide ((IntKind.wrap .i64 (x7 - 1)) < (List.length x0 : Int)))) (when (FV.fits 1 false (List.getD x0 (Int.toNat (IntKind.wrap .i64 (x7 - 1))) FV.nilp)) (when (FV.isStr (List.getD x0 (Int.toNat (IntKind.wrap .i64 (x7 - 1))) FV.nilp)) (ifB (Op.bytesLess (ByteArray.toList (FV.toStr (List.getD x5 (Int.toNat x7) FV.nilp))) (ByteArray.toList (FV.toStr (List.getD x0 (Int.toNat (IntKind.wrap .i64 (x7 - 1))) FV.nilp))) || ByteArray.toList (FV.toStr (List.getD x5 (Int.toNat x7) FV.nilp)) == ByteArray.toList (FV.toStr (List.getD x0 (Int.toNat (IntKind.wrap .i64 (x7 - 1))) FV.nilp)))
     (some (.ret, X_jval_rising_1_0 false))
     (L_jval_rising_1_0 R k w n x0 x5 x6 (IntKind.wrap .i64 (x7 + 1)))))))
    (L_jval_rising_1_0 R k w n x0 x5 x6 (IntKind.wrap .i64 (x7 + 1))))))))))
  (some ((.exit 0), X_jval_rising_1_1)) := by kernel_rfl
theorem X_jval_rising_1_0_eq (R : Orc) (k : Nat) (w : Bool) (x2 : Bool) : K_jval_rising_1 R k w .ret (X_jval_rising_1_0 x2) = some ([.fz (FV.bool x2)], []) := by kernel_rfl
theorem X_jval_rising_1_1_eq (R : Orc) (k : Nat) (w : Bool) : K_jval_rising_1 R k w (.exit 0) (X_jval_rising_1_1) = some ([.fz (FV.bool true)], []) := by kernel_rfl
/-! keyhole/utf.size -/
def A_utf_size_j1 : ACode := .cond (.t 20) (.skip)
 (.region [⟨(some 41), .mov (.t 3), none, some (.int .u8)⟩,
  ⟨(some 42), .binI .eql .u8 (.t 41) (.c (.fz (.int .u8 237))), none, some .bool⟩,
  ⟨(some 43), .mov (.t 42), none, some .bool⟩,
  ⟨(some 44), .mov (.t 0), (some (43, true)), some .str⟩,
  ⟨(some 45), .call N_utf_tail [((.t 44), .fz), ((.c (.fz (.int .i64 2))), .fz), ((.c (.fz (.int .u8 128))), .fz), ((.c (.fz (.int .u8 159))), .fz)] [.fz], (some (43, true)), some .bool⟩,
  ⟨(some 46), .pick (.t 43) (.t 45) (.c (.fz (.bool false))), none, some .bool⟩,
  ⟨(some 20), .mov (.t 46), none, some .bool⟩])
def A_utf_size_j2 : ACode := .cond (.t 20) (.skip)
 (.seq (.region [⟨(some 27), .mov (.t 3), none, some (.int .u8)⟩,
   ⟨(some 28), .binI .geq .u8 (.t 27) (.c (.fz (.int .u8 225))), none, some .bool⟩,
   ⟨(some 29), .mov (.t 28), none, some .bool⟩,
   ⟨(some 30), .mov (.t 3), (some (29, true)), some (.int .u8)⟩,
   ⟨(some 31), .binI .leq .u8 (.t 30) (.c (.fz (.int .u8 239))), (some (29, true)), some .bool⟩,
   ⟨(some 32), .pick (.t 29) (.t 31) (.c (.fz (.bool false))), none, some .bool⟩,
   ⟨(some 33), .mov (.t 32), none, some .bool⟩,
   ⟨(some 34), .mov (.t 3), (some (33, true)), some (.int .u8)⟩,
   ⟨(some 35), .binI .neq .u8 (.t 34) (.c (.fz (.int .u8 237))), (some (33, true)), some .bool⟩,
   ⟨(some 36), .pick (.t 33) (.t 35) (.c (.fz (.bool false))), none, some .bool⟩,
   ⟨(some 37), .mov (.t 36), none, some .bool⟩,
   ⟨(some 38), .mov (.t 0), (some (37, true)), some .str⟩,
   ⟨(some 39), .call N_utf_tail [((.t 38), .fz), ((.c (.fz (.int .i64 2))), .fz), ((.c (.fz (.int .u8 128))), .fz), ((.c (.fz (.int .u8 191))), .fz)] [.fz], (some (37, true)), some .bool⟩,
   ⟨(some 40), .pick (.t 37) (.t 39) (.c (.fz (.bool false))), none, some .bool⟩,
   ⟨(some 20), .mov (.t 40), none, some .bool⟩])
  (.trim [0, 3, 20] A_utf_size_j1))
def A_utf_size_j3 : ACode := .cond (.t 47) (.skip)
 (.region [⟨(some 64), .mov (.t 3), none, some (.int .u8)⟩,
  ⟨(some 65), .binI .eql .u8 (.t 64) (.c (.fz (.int .u8 244))), none, some .bool⟩,
  ⟨(some 66), .mov (.t 65), none, some .bool⟩,
  ⟨(some 67), .mov (.t 0), (some (66, true)), some .str⟩,
  ⟨(some 68), .call N_utf_tail [((.t 67), .fz), ((.c (.fz (.int .i64 3))), .fz), ((.c (.fz (.int .u8 128))), .fz), ((.c (.fz (.int .u8 143))), .fz)] [.fz], (some (66, true)), some .bool⟩,
  ⟨(some 69), .pick (.t 66) (.t 68) (.c (.fz (.bool false))), none, some .bool⟩,
  ⟨(some 47), .mov (.t 69), none, some .bool⟩])
def A_utf_size_j4 : ACode := .cond (.t 47) (.skip)
 (.seq (.region [⟨(some 54), .mov (.t 3), none, some (.int .u8)⟩,
   ⟨(some 55), .binI .geq .u8 (.t 54) (.c (.fz (.int .u8 241))), none, some .bool⟩,
   ⟨(some 56), .mov (.t 55), none, some .bool⟩,
   ⟨(some 57), .mov (.t 3), (some (56, true)), some (.int .u8)⟩,
   ⟨(some 58), .binI .leq .u8 (.t 57) (.c (.fz (.int .u8 243))), (some (56, true)), some .bool⟩,
   ⟨(some 59), .pick (.t 56) (.t 58) (.c (.fz (.bool false))), none, some .bool⟩,
   ⟨(some 60), .mov (.t 59), none, some .bool⟩,
   ⟨(some 61), .mov (.t 0), (some (60, true)), some .str⟩,
   ⟨(some 62), .call N_utf_tail [((.t 61), .fz), ((.c (.fz (.int .i64 3))), .fz), ((.c (.fz (.int .u8 128))), .fz), ((.c (.fz (.int .u8 191))), .fz)] [.fz], (some (60, true)), some .bool⟩,
   ⟨(some 63), .pick (.t 60) (.t 62) (.c (.fz (.bool false))), none, some .bool⟩,
   ⟨(some 47), .mov (.t 63), none, some .bool⟩])
  (.trim [0, 3, 47] A_utf_size_j3))
def A_utf_size_s5 : ACode := .cond (.t 47) (.seq (.region [⟨(some 2), .mov (.c (.fz (.int .i64 4))), none, some (.int .i64)⟩])
  (.ret))
 (.skip)
def A_utf_size_j6 : ACode := .cond (.t 20) (.seq (.region [⟨(some 2), .mov (.c (.fz (.int .i64 3))), none, some (.int .i64)⟩])
  (.ret))
 (.seq (.seq (.region [⟨(some 48), .mov (.t 3), none, some (.int .u8)⟩,
    ⟨(some 49), .binI .eql .u8 (.t 48) (.c (.fz (.int .u8 240))), none, some .bool⟩,
    ⟨(some 50), .mov (.t 49), none, some .bool⟩,
    ⟨(some 51), .mov (.t 0), (some (50, true)), some .str⟩,
    ⟨(some 52), .call N_utf_tail [((.t 51), .fz), ((.c (.fz (.int .i64 3))), .fz), ((.c (.fz (.int .u8 144))), .fz), ((.c (.fz (.int .u8 191))), .fz)] [.fz], (some (50, true)), some .bool⟩,
    ⟨(some 53), .pick (.t 50) (.t 52) (.c (.fz (.bool false))), none, some .bool⟩,
    ⟨(some 47), .mov (.t 53), none, some .bool⟩])
   (.trim [0, 3, 47] A_utf_size_j4))
  A_utf_size_s5)
def A_utf_size_s7 : ACode := .trim [0, 3, 20] A_utf_size_j6
def A_utf_size_j8 : ACode := .cond (.t 9) (.seq (.region [⟨(some 2), .mov (.c (.fz (.int .i64 2))), none, some (.int .i64)⟩])
  (.ret))
 (.seq (.seq (.region [⟨(some 21), .mov (.t 3), none, some (.int .u8)⟩,
    ⟨(some 22), .binI .eql .u8 (.t 21) (.c (.fz (.int .u8 224))), none, some .bool⟩,
    ⟨(some 23), .mov (.t 22), none, some .bool⟩,
    ⟨(some 24), .mov (.t 0), (some (23, true)), some .str⟩,
    ⟨(some 25), .call N_utf_tail [((.t 24), .fz), ((.c (.fz (.int .i64 2))), .fz), ((.c (.fz (.int .u8 160))), .fz), ((.c (.fz (.int .u8 191))), .fz)] [.fz], (some (23, true)), some .bool⟩,
    ⟨(some 26), .pick (.t 23) (.t 25) (.c (.fz (.bool false))), none, some .bool⟩,
    ⟨(some 20), .mov (.t 26), none, some .bool⟩])
   (.trim [0, 3, 20] A_utf_size_j2))
  A_utf_size_s7)
def A_utf_size_s9 : ACode := .seq (.region [⟨(some 2), .mov (.c (.fz (.int .i64 0))), none, some (.int .i64)⟩])
 (.ret)
def A_utf_size : AFunc := ⟨1, [(.tmp 2, .fz)], .seq (.region [⟨(some 2), .mov (.c (.fz (.int .i64 0))), none, some (.int .i64)⟩])
 (.seq (.region [⟨(some 4), .mov (.t 0), none, some .str⟩,
   ⟨(some 5), .index .str (.t 4) (.c (.fz (.int .i64 0))), none, some (.int .u8)⟩,
   ⟨(some 3), .mov (.t 5), none, some (.int .u8)⟩])
  (.seq (.block 0 (.seq (.region [⟨(some 7), .mov (.t 3), none, some (.int .u8)⟩,
      ⟨(some 8), .binI .lss .u8 (.t 7) (.c (.fz (.int .u8 128))), none, some .bool⟩,
      ⟨(some 6), .mov (.t 8), none, some .bool⟩])
     (.cond (.t 6) (.seq (.region [⟨(some 2), .mov (.c (.fz (.int .i64 1))), none, some (.int .i64)⟩])
       (.ret))
      (.seq (.region [⟨(some 10), .mov (.t 3), none, some (.int .u8)⟩,
        ⟨(some 11), .binI .geq .u8 (.t 10) (.c (.fz (.int .u8 194))), none, some .bool⟩,
        ⟨(some 12), .mov (.t 11), none, some .bool⟩,
        ⟨(some 13), .mov (.t 3), (some (12, true)), some (.int .u8)⟩,
        ⟨(some 14), .binI .leq .u8 (.t 13) (.c (.fz (.int .u8 223))), (some (12, true)), some .bool⟩,
        ⟨(some 15), .pick (.t 12) (.t 14) (.c (.fz (.bool false))), none, some .bool⟩,
        ⟨(some 16), .mov (.t 15), none, some .bool⟩,
        ⟨(some 17), .mov (.t 0), (some (16, true)), some .str⟩,
        ⟨(some 18), .call N_utf_tail [((.t 17), .fz), ((.c (.fz (.int .i64 1))), .fz), ((.c (.fz (.int .u8 128))), .fz), ((.c (.fz (.int .u8 191))), .fz)] [.fz], (some (16, true)), some .bool⟩,
        ⟨(some 19), .pick (.t 16) (.t 18) (.c (.fz (.bool false))), none, some .bool⟩,
        ⟨(some 9), .mov (.t 19), none, some .bool⟩])
       (.trim [0, 3, 9] A_utf_size_j8)))))
   A_utf_size_s9))⟩
def J_utf_size_8_0 (R : Orc) (k : Nat) (w : Bool) (x0 : ByteArray) (x3 : Int) (x9 : Bool) := execL R k w [] A_utf_size_j8 Ans ⟨[(0, .fz (FV.str x0)), (3, .fz (FV.int .u8 x3)), (9, .fz (FV.bool x9))], [(4095, .dead)]⟩ (kBlk 0 (kSeq R k w [] A_utf_size_s9 (kFin R [(.tmp 2, .fz)] [])))
def J_utf_size_2_0 (R : Orc) (k : Nat) (w : Bool) (x0 : ByteArray) (x3 : Int) (x20 : Bool) := execL R k w [] A_utf_size_j2 Ans ⟨[(0, .fz (FV.str x0)), (3, .fz (FV.int .u8 x3)), (20, .fz (FV.bool x20))], [(4095, .dead)]⟩ (kSeq R k w [] A_utf_size_s7 (kBlk 0 (kSeq R k w [] A_utf_size_s9 (kFin R [(.tmp 2, .fz)] []))))
def J_utf_size_6_0 (R : Orc) (k : Nat) (w : Bool) (x0 : ByteArray) (x3 : Int) (x20 : Bool) := execL R k w [] A_utf_size_j6 Ans ⟨[(0, .fz (FV.str x0)), (3, .fz (FV.int .u8 x3)), (20, .fz (FV.bool x20))], [(4095, .dead)]⟩ (kBlk 0 (kSeq R k w [] A_utf_size_s9 (kFin R [(.tmp 2, .fz)] [])))
def J_utf_size_1_0 (R : Orc) (k : Nat) (w : Bool) (x0 : ByteArray) (x3 : Int) (x20 : Bool) := execL R k w [] A_utf_size_j1 Ans ⟨[(0, .fz (FV.str x0)), (3, .fz (FV.int .u8 x3)), (20, .fz (FV.bool x20))], [(4095, .dead)]⟩ (kSeq R k w [] A_utf_size_s7 (kBlk 0 (kSeq R k w [] A_utf_size_s9 (kFin R [(.tmp 2, .fz)] []))))
def J_utf_size_4_0 (R : Orc) (k : Nat) (w : Bool) (x0 : ByteArray) (x3 : Int) (x47 : Bool) := execL R k w [] A_utf_size_j4 Ans ⟨[(0, .fz (FV.str x0)), (3, .fz (FV.int .u8 x3)), (47, .fz (FV.bool x47))], [(4095, .dead)]⟩ (kSeq R k w [] A_utf_size_s5 (kBlk 0 (kSeq R k w [] A_utf_size_s9 (kFin R [(.tmp 2, .fz)] []))))
def J_utf_size_3_0 (R : Orc) (k : Nat) (w : Bool) (x0 : ByteArray) (x3 : Int) (x47 : Bool) := execL R k w [] A_utf_size_j3 Ans ⟨[(0, .fz (FV.str x0)), (3, .fz (FV.int .u8 x3)), (47, .fz (FV.bool x47))], [(4095, .dead)]⟩ (kSeq R k w [] A_utf_size_s5 (kBlk 0 (kSeq R k w [] A_utf_size_s9 (kFin R [(.tmp 2, .fz)] []))))
theorem E_utf_size (R : Orc) (k : Nat) (w : Bool) (a0 : ByteArray) : callL R k w A_utf_size [.fz (FV.str a0)] = when (decide (0 < (ByteArray.size a0 : Int))) (ifB (decide ((((Array.getD (ByteArray.data a0) 0 0).toNat : Nat) : Int) < 128))
  (some ([.fz (FV.int .i64 1)], []))
  (ifB (decide ((((Array.getD (ByteArray.data a0) 0 0).toNat : Nat) : Int) ≥ 194))
   (ifB (decide ((((Array.getD (ByteArray.data a0) 0 0).toNat : Nat) : Int) ≤ 223))
    (onR (R N_utf_tail [.fz (FV.str a0), .fz (FV.int .i64 1), .fz (FV.int .u8 128), .fz (FV.int .u8 191)]) fun r0 => when (List.isEmpty r0.2 && allF [.fz] r0.1) (when (FV.isBool (TV.toF (List.getD r0.1 0 TV.em))) (jump w (J_utf_size_8_0 R k w a0 (((Array.getD (ByteArray.data a0) 0 0).toNat : Nat) : Int) (FV.toBool (TV.toF (List.getD r0.1 0 TV.em)))))))
    (jump w (J_utf_size_8_0 R k w a0 (((Array.getD (ByteArray.data a0) 0 0).toNat : Nat) : Int) false)))
   (jump w (J_utf_size_8_0 R k w a0 (((Array.getD (ByteArray.data a0) 0 0).toNat : Nat) : Int) false)))) := by kernel_rfl
theorem J_utf_size_8_0_eq (R : Orc) (k : Nat) (w : Bool) (x0 : ByteArray) (x3 : Int) (x9 : Bool) : J_utf_size_8_0 R k w x0 x3 x9 = ifB x9
  (some ([.fz (FV.int .i64 2)], []))
  (ifB (x3 == 224)
   (onR (R N_utf_tail [.fz (FV.str x0), .fz (FV.int .i64 2), .fz (FV.int .u8 160), .fz (FV.int .u8 191)]) fun r1 => when (List.isEmpty r1.2 && allF [.fz] r1.1) (when (FV.isBool (TV.toF (List.getD r1.1 0 TV.em))) (jump w (J_utf_size_2_0 R k w x0 x3 (FV.toBool (TV.toF (List.getD r1.1 0 TV.em)))))))
   (jump w (J_utf_size_2_0 R k w x0 x3 false))) := by kernel_rfl
theorem J_utf_size_2_0_eq (R : Orc) (k : Nat) (w : Bool) (x0 : ByteArray) (x3 : Int) (x20 : Bool) : J_utf_size_2_0 R k w x0 x3 x20 = ifB x20
  (jump w (J_utf_size_6_0 R k w x0 x3 true))
  (ifB (decide (x3 ≥ 225))
   (ifB (decide (x3 ≤ 239))
    (ifB (x3 != 237)
     (onR (R N_utf_tail [.fz (FV.str x0), .fz (FV.int .i64 2), .fz (FV.int .u8 128), .fz (FV.int .u8 191)]) fun r2 => when (List.isEmpty r2.2 && allF [.fz] r2.1) (when (FV.isBool (TV.toF (List.getD r2.1 0 TV.em))) (jump w (J_utf_size_1_0 R k w x0 x3 (FV.toBool (TV.toF (List.getD r2.1 0 TV.em)))))))
     (jump w (J_utf_size_1_0 R k w x0 x3 false)))
    (jump w (J_utf_size_1_0 R k w x0 x3 false)))
   (jump w (J_utf_size_1_0 R k w x0 x3 false))) := by kernel_rfl
theorem J_utf_size_6_0_eq (R : Orc) (k : Nat) (w : Bool) (x0 : ByteArray) (x3 : Int) (x20 : Bool) : J_utf_size_6_0 R k w x0 x3 x20 = ifB x20
  (some ([.fz (FV.int .i64 3)], []))
  (ifB (x3 == 240)
   (onR (R N_utf_tail [.fz (FV.str x0), .fz (FV.int .i64 3), .fz (FV.int .u8 144), .fz (FV.int .u8 191)]) fun r3 => when (List.isEmpty r3.2 && allF [.fz] r3.1) (when (FV.isBool (TV.toF (List.getD r3.1 0 TV.em))) (jump w (J_utf_size_4_0 R k w x0 x3 (FV.toBool (TV.toF (List.getD r3.1 0 TV.em)))))))
   (jump w (J_utf_size_4_0 R k w x0 x3 false))) := by kernel_rfl
theorem J_utf_size_1_0_eq (R : Orc) (k : Nat) (w : Bool) (x0 : ByteArray) (x3 : Int) (x20 : Bool) : J_utf_size_1_0 R k w x0 x3 x20 = ifB x20
  (jump w (J_utf_size_6_0 R k w x0 x3 true))
  (ifB (x3 == 237)
   (onR (R N_utf_tail [.fz (FV.str x0), .fz (FV.int .i64 2), .fz (FV.int .u8 128), .fz (FV.int .u8 159)]) fun r4 => when (List.isEmpty r4.2 && allF [.fz] r4.1) (when (FV.isBool (TV.toF (List.getD r4.1 0 TV.em))) (jump w (J_utf_size_6_0 R k w x0 x3 (FV.toBool (TV.toF (List.getD r4.1 0 TV.em)))))))
   (jump w (J_utf_size_6_0 R k w x0 x3 false))) := by kernel_rfl
theorem J_utf_size_4_0_eq (R : Orc) (k : Nat) (w : Bool) (x0 : ByteArray) (x3 : Int) (x47 : Bool) : J_utf_size_4_0 R k w x0 x3 x47 = ifB x47
  (some ([.fz (FV.int .i64 4)], []))
  (ifB (decide (x3 ≥ 241))
   (ifB (decide (x3 ≤ 243))
    (onR (R N_utf_tail [.fz (FV.str x0), .fz (FV.int .i64 3), .fz (FV.int .u8 128), .fz (FV.int .u8 191)]) fun r5 => when (List.isEmpty r5.2 && allF [.fz] r5.1) (when (FV.isBool (TV.toF (List.getD r5.1 0 TV.em))) (jump w (J_utf_size_3_0 R k w x0 x3 (FV.toBool (TV.toF (List.getD r5.1 0 TV.em)))))))
    (jump w (J_utf_size_3_0 R k w x0 x3 false)))
   (jump w (J_utf_size_3_0 R k w x0 x3 false))) := by kernel_rfl
theorem J_utf_size_3_0_eq (R : Orc) (k : Nat) (w : Bool) (x0 : ByteArray) (x3 : Int) (x47 : Bool) : J_utf_size_3_0 R k w x0 x3 x47 = ifB x47
  (some ([.fz (FV.int .i64 4)], []))
  (ifB (x3 == 244)
   (onR (R N_utf_tail [.fz (FV.str x0), .fz (FV.int .i64 3), .fz (FV.int .u8 128), .fz (FV.int .u8 143)]) fun r6 => when (List.isEmpty r6.2 && allF [.fz] r6.1) (when (FV.isBool (TV.toF (List.getD r6.1 0 TV.em))) (ifB (FV.toBool (TV.toF (List.getD r6.1 0 TV.em)))
    (some ([.fz (FV.int .i64 4)], []))
    (some ([.fz (FV.int .i64 0)], [])))))
   (some ([.fz (FV.int .i64 0)], []))) := by kernel_rfl
/-! keyhole/utf.tail -/
def A_utf_tail_b1 : ACode := .seq (.seq (.region [⟨(some 26), .mov (.t 9), none, some (.int .i64)⟩,
   ⟨(some 27), .mov (.t 1), none, some (.int .i64)⟩,
   ⟨(some 28), .binI .leq .i64 (.t 26) (.t 27), none, some .bool⟩])
  (.cond (.t 28) (.skip)
   (.exit 0)))
 (.seq (.block 1 (.seq (.region [⟨(some 31), .mov (.t 0), none, some .str⟩,
     ⟨(some 32), .mov (.t 9), none, some (.int .i64)⟩,
     ⟨(some 33), .index .str (.t 31) (.t 32), none, some (.int .u8)⟩,
     ⟨(some 34), .binI .lss .u8 (.t 33) (.c (.fz (.int .u8 128))), none, some .bool⟩,
     ⟨(some 35), .mov (.t 34), none, some .bool⟩,
     ⟨(some 36), .mov (.t 0), (some (35, false)), some .str⟩,
     ⟨(some 37), .mov (.t 9), (some (35, false)), some (.int .i64)⟩,
     ⟨(some 38), .index .str (.t 36) (.t 37), (some (35, false)), some (.int .u8)⟩,
     ⟨(some 39), .binI .gtr .u8 (.t 38) (.c (.fz (.int .u8 191))), (some (35, false)), some .bool⟩,
     ⟨(some 40), .pick (.t 35) (.c (.fz (.bool true))) (.t 39), none, some .bool⟩])
    (.cond (.t 40) (.seq (.region [⟨(some 8), .mov (.c (.fz (.bool false))), none, some .bool⟩])
      (.ret))
     (.skip))))
  (.region [⟨(some 29), .mov (.t 9), none, some (.int .i64)⟩,
   ⟨(some 30), .binI .add .i64 (.t 29) (.c (.fz (.int .i64 1))), none, some (.int .i64)⟩,
   ⟨(some 9), .mov (.t 30), none, some (.int .i64)⟩]))
def A_utf_tail_s1 : ACode := .seq (.region [⟨(some 8), .mov (.c (.fz (.bool true))), none, some .bool⟩])
 (.ret)
def A_utf_tail_j2 : ACode := .seq (.seq (.region [⟨(some 9), .mov (.c (.fz (.int .i64 2))), none, some (.int .i64)⟩])
  (.block 0 (.loop [0, 1, 9] [8] A_utf_tail_b1)))
 A_utf_tail_s1
def A_utf_tail : AFunc := ⟨4, [(.tmp 8, .fz)], .seq (.region [⟨(some 8), .mov (.c (.fz (.bool false))), none, some .bool⟩])
 (.seq (.seq (.region [⟨(some 10), .mov (.t 0), none, some .str⟩,
    ⟨(some 11), .len .str (.t 10), none, some (.int .i64)⟩,
    ⟨(some 12), .mov (.t 1), none, some (.int .i64)⟩,
    ⟨(some 13), .binI .leq .i64 (.t 11) (.t 12), none, some .bool⟩,
    ⟨(some 14), .mov (.t 13), none, some .bool⟩,
    ⟨(some 15), .mov (.t 0), (some (14, false)), some .str⟩,
    ⟨(some 16), .index .str (.t 15) (.c (.fz (.int .i64 1))), (some (14, false)), some (.int .u8)⟩,
    ⟨(some 17), .mov (.t 2), (some (14, false)), some (.int .u8)⟩,
    ⟨(some 18), .binI .lss .u8 (.t 16) (.t 17), (some (14, false)), some .bool⟩,
    ⟨(some 19), .pick (.t 14) (.c (.fz (.bool true))) (.t 18), none, some .bool⟩,
    ⟨(some 20), .mov (.t 19), none, some .bool⟩,
    ⟨(some 21), .mov (.t 0), (some (20, false)), some .str⟩,
    ⟨(some 22), .index .str (.t 21) (.c (.fz (.int .i64 1))), (some (20, false)), some (.int .u8)⟩,
    ⟨(some 23), .mov (.t 3), (some (20, false)), some (.int .u8)⟩,
    ⟨(some 24), .binI .gtr .u8 (.t 22) (.t 23), (some (20, false)), some .bool⟩,
    ⟨(some 25), .pick (.t 20) (.c (.fz (.bool true))) (.t 24), none, some .bool⟩])
   (.cond (.t 25) (.seq (.region [⟨(some 8), .mov (.c (.fz (.bool false))), none, some .bool⟩])
     (.ret))
    (.skip)))
  (.trim [0, 1] A_utf_tail_j2))⟩
def J_utf_tail_2_0 (R : Orc) (k : Nat) (w : Bool) (x0 : ByteArray) (x1 : Int) := execL R k w [] A_utf_tail_j2 Ans ⟨[(0, .fz (FV.str x0)), (1, .fz (FV.int .i64 x1))], [(4095, .dead)]⟩ (kFin R [(.tmp 8, .fz)] [])
def K_utf_tail_1 (R : Orc) (k : Nat) (w : Bool) : AExit → St → Option Ans := (kBlk 0 (kSeq R k w [] A_utf_tail_s1 (kFin R [(.tmp 8, .fz)] [])))
def L_utf_tail_1_0 (R : Orc) (k : Nat) (w : Bool) (n : Nat) (x0 : ByteArray) (x1 : Int) (x9 : Int) := loopL R k w [] [0, 1, 9] [8] A_utf_tail_b1 n ⟨[(0, .fz (FV.str x0)), (1, .fz (FV.int .i64 x1)), (9, .fz (FV.int .i64 x9))], [(4095, .dead)]⟩
def X_utf_tail_1_0 (x8 : Bool) : St := ⟨[(8, .fz (FV.bool x8))], [(4095, .dead)]⟩
def X_utf_tail_1_1 : St := ⟨[], [(4095, .dead)]⟩
theorem E_utf_tail (R : Orc) (k : Nat) (w : Bool) (a0 : ByteArray) (a1 : Int) (a2 : Int) (a3 : Int) : callL R k w A_utf_tail [.fz (FV.str a0), .fz (FV.int .i64 a1), .fz (FV.int .u8 a2), .fz (FV.int .u8 a3)] = ifB (decide ((ByteArray.size a0 : Int) ≤ a1))
  (some ([.fz (FV.bool false)], []))
  (when (decide (1 < (ByteArray.size a0 : Int))) (ifB (decide ((((Array.getD (ByteArray.data a0) 1 0).toNat : Nat) : Int) < a2))
   (some ([.fz (FV.bool false)], []))
   (when (decide (1 < (ByteArray.size a0 : Int))) (ifB (decide ((((Array.getD (ByteArray.data a0) 1 0).toNat : Nat) : Int) > a3))
    (some ([.fz (FV.bool false)], []))
    (jump w (J_utf_tail_2_0 R k w a0 a1)))))) := by kernel_rfl
theorem J_utf_tail_2_0_eq (R : Orc) (k : Nat) (w : Bool) (x0 : ByteArray) (x1 : Int) : J_utf_tail_2_0 R k w x0 x1 = onL (L_utf_tail_1_0 R k w k x0 x1 2) (K_utf_tail_1 R k w) := by kernel_rfl
theorem L_utf_tail_1_0_eq (R : Orc) (k : Nat) (w : Bool) (n : Nat) (x0 : ByteArray) (x1 : Int) (x9 : Int) : L_utf_tail_1_0 R k w (n + 1) x0 x1 x9 = ifB (decide (x9 ≤ x1))
  (when ((decide (0 ≤ x9)) && (decide (x9 < (ByteArray.size x0 : Int)))) (ifB (decide ((((Array.getD (ByteArray.data x0) (Int.toNat x9) 0).toNat : Nat) : Int) < 128))
   (some (.ret, X_utf_tail_1_0 false))
   (when ((decide (0 ≤ x9)) && (decide (x9 < (ByteArray.size x0 : Int)))) (ifB (decide ((((Array.getD (ByteArray.data x0) (Int.toNat x9) 0).toNat : Nat) : Int) > 191))
    (some (.ret, X_utf_tail_1_0 false))
    (L_utf_tail_1_0 R k w n x0 x1 (IntKind.wrap .i64 (x9 + 1)))))))
  (some ((.exit 0), X_utf_tail_1_1)) := by kernel_rfl
theorem X_utf_tail_1_0_eq (R : Orc) (k : Nat) (w : Bool) (x8 : Bool) : K_utf_tail_1 R k w .ret (X_utf_tail_1_0 x8) = some ([.fz (FV.bool x8)], []) := by kernel_rfl
theorem X_utf_tail_1_1_eq (R : Orc) (k : Nat) (w : Bool) : K_utf_tail_1 R k w (.exit 0) (X_utf_tail_1_1) = some ([.fz (FV.bool true)], []) := by kernel_rfl
end Go.Ab
