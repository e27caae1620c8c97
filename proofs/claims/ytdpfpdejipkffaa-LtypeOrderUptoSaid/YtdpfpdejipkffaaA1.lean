-- Written by a program of the session, out of the translation. Lean checks it.
import Derived.Test.YtdpfpdejipkffaaA0
namespace Go.Ab
open Go.Proofs FV TV
set_option linter.unusedVariables false
set_option maxRecDepth 100000
noncomputable section
/-! keyhole/keyholelaw25.LtypeFits -/
def C_law25_LtypeFits : ACode := codeOf 4 Try.f4
def A_law25_LtypeFits : AFunc := ⟨3, [(.tmp 6, .fz)], C_law25_LtypeFits, none⟩
/-! keyhole/keyholelaw25.LtypeJoins -/
def C_law25_LtypeJoins : ACode := codeOf 5 Try.f5
def A_law25_LtypeJoins : AFunc := ⟨2, [(.tmp 4, .fz)], C_law25_LtypeJoins, none⟩
/-! keyhole/keyholelaw25.LtypeCuts -/
def C_law25_LtypeCuts : ACode := codeOf 6 Try.f6
def A_law25_LtypeCuts : AFunc := ⟨3, [(.tmp 6, .fz)], C_law25_LtypeCuts, none⟩
/-! keyhole/keyholelaw25.LtypeOrder -/
def C_law25_LtypeOrder : ACode := codeOf 8 Try.f8
def A_law25_LtypeOrder_j1 : ACode := C_law25_LtypeOrder.at [1, 1, 1, 0, 1, 1, 0, 1, 0, 1, 0, 1, 0, 1, 0]
def A_law25_LtypeOrder_j2 : ACode := C_law25_LtypeOrder.at [1, 1, 1, 0, 1, 1, 0, 1, 0, 1, 0, 1, 0]
def A_law25_LtypeOrder_j3 : ACode := C_law25_LtypeOrder.at [1, 1, 1, 0, 1, 1, 0, 1, 0, 1, 0]
def A_law25_LtypeOrder_j4 : ACode := C_law25_LtypeOrder.at [1, 1, 1, 0, 1, 1, 0, 1, 0]
def A_law25_LtypeOrder_j5 : ACode := C_law25_LtypeOrder.at [1, 1, 1, 0, 1, 1, 0]
def A_law25_LtypeOrder_j6 : ACode := C_law25_LtypeOrder.at [1, 1, 1, 0]
def A_law25_LtypeOrder : AFunc := ⟨3, [(.tmp 6, .fz)], C_law25_LtypeOrder, none⟩
def J_law25_LtypeOrder_6_0 (R : Orc) (k : Nat) (w : Bool) (a : FV) (b : Int) (c d : List FV) (e f : Int) (g h : List FV) (i j : Int) (l m : List FV) (o p q s t u : Int) (v : ByteArray) (x y : List FV) := execL R k w [] A_law25_LtypeOrder_j6 Ans ⟨[(4, .ptr 4096 0 0), (5, .ptr 4097 0 0), (7, .fz a)], [(4095, .dead), (4096, .icv 12 true (.ag [.int .i64 b, .sl c, .sl d, .int .i64 e, .int .i64 f, .sl g, .sl h, .int .i64 i, .int .i64 j, .sl l, .sl m, .int .i64 o])), (4097, .var 8 true (.fz (.ag [.int .i64 p, .int .i64 q, .int .i64 s, .int .i64 t, .int .i64 u, .str v, .sl x, .sl y])))]⟩ (kFin R [(.tmp 6, .fz)] [])
def J_law25_LtypeOrder_5_0 (R : Orc) (k : Nat) (w : Bool) (a : FV) (b : Int) (c d : List FV) (e f : Int) (g h : List FV) (i j : Int) (l m : List FV) (o p q s t u : Int) (v : ByteArray) (x y : List FV) (z : FV) := execL R k w [] A_law25_LtypeOrder_j5 Ans ⟨[(4, .ptr 4096 0 0), (5, .ptr 4097 0 0), (7, .fz a), (9, .ptr 4098 0 0)], [(4095, .dead), (4096, .icv 12 true (.ag [.int .i64 b, .sl c, .sl d, .int .i64 e, .int .i64 f, .sl g, .sl h, .int .i64 i, .int .i64 j, .sl l, .sl m, .int .i64 o])), (4097, .var 8 true (.fz (.ag [.int .i64 p, .int .i64 q, .int .i64 s, .int .i64 t, .int .i64 u, .str v, .sl x, .sl y]))), (4098, .var 4 true (.fz z))]⟩ (kFin R [(.tmp 6, .fz)] [])
def J_law25_LtypeOrder_4_0 (R : Orc) (k : Nat) (w : Bool) (a : FV) (b : Int) (c d : List FV) (e f : Int) (g h : List FV) (i j : Int) (l m : List FV) (o p q s t u : Int) (v : ByteArray) (x y : List FV) (z : FV) := execL R k w [] A_law25_LtypeOrder_j4 Ans ⟨[(4, .ptr 4096 0 0), (5, .ptr 4097 0 0), (7, .fz a), (9, .ptr 4098 0 0)], [(4095, .dead), (4096, .icv 12 true (.ag [.int .i64 b, .sl c, .sl d, .int .i64 e, .int .i64 f, .sl g, .sl h, .int .i64 i, .int .i64 j, .sl l, .sl m, .int .i64 o])), (4097, .var 8 true (.fz (.ag [.int .i64 p, .int .i64 q, .int .i64 s, .int .i64 t, .int .i64 u, .str v, .sl x, .sl y]))), (4098, .var 4 true (.fz z))]⟩ (kFin R [(.tmp 6, .fz)] [])
def J_law25_LtypeOrder_3_0 (R : Orc) (k : Nat) (w : Bool) (a : FV) (b : Int) (c d : List FV) (e f : Int) (g h : List FV) (i j : Int) (l m : List FV) (o p q s t u : Int) (v : ByteArray) (x y : List FV) (z : FV) := execL R k w [] A_law25_LtypeOrder_j3 Ans ⟨[(4, .ptr 4096 0 0), (5, .ptr 4097 0 0), (7, .fz a), (9, .ptr 4098 0 0)], [(4095, .dead), (4096, .icv 12 true (.ag [.int .i64 b, .sl c, .sl d, .int .i64 e, .int .i64 f, .sl g, .sl h, .int .i64 i, .int .i64 j, .sl l, .sl m, .int .i64 o])), (4097, .var 8 true (.fz (.ag [.int .i64 p, .int .i64 q, .int .i64 s, .int .i64 t, .int .i64 u, .str v, .sl x, .sl y]))), (4098, .var 4 true (.fz z))]⟩ (kFin R [(.tmp 6, .fz)] [])
def J_law25_LtypeOrder_2_0 (R : Orc) (k : Nat) (w : Bool) (a : FV) (b : Int) (c d : List FV) (e f : Int) (g h : List FV) (i j : Int) (l m : List FV) (o p q s t u : Int) (v : ByteArray) (x y : List FV) (z : FV) := execL R k w [] A_law25_LtypeOrder_j2 Ans ⟨[(4, .ptr 4096 0 0), (5, .ptr 4097 0 0), (7, .fz a), (9, .ptr 4098 0 0)], [(4095, .dead), (4096, .icv 12 true (.ag [.int .i64 b, .sl c, .sl d, .int .i64 e, .int .i64 f, .sl g, .sl h, .int .i64 i, .int .i64 j, .sl l, .sl m, .int .i64 o])), (4097, .var 8 true (.fz (.ag [.int .i64 p, .int .i64 q, .int .i64 s, .int .i64 t, .int .i64 u, .str v, .sl x, .sl y]))), (4098, .var 4 true (.fz z))]⟩ (kFin R [(.tmp 6, .fz)] [])
def J_law25_LtypeOrder_1_0 (R : Orc) (k : Nat) (w : Bool) (a : FV) (b : Int) (c d : List FV) (e f : Int) (g h : List FV) (i j : Int) (l m : List FV) (o p q s t u : Int) (v : ByteArray) (x y : List FV) := execL R k w [] A_law25_LtypeOrder_j1 Ans ⟨[(4, .ptr 4096 0 0), (5, .ptr 4097 0 0), (7, .fz a)], [(4095, .dead), (4096, .icv 12 true (.ag [.int .i64 b, .sl c, .sl d, .int .i64 e, .int .i64 f, .sl g, .sl h, .int .i64 i, .int .i64 j, .sl l, .sl m, .int .i64 o])), (4097, .var 8 true (.fz (.ag [.int .i64 p, .int .i64 q, .int .i64 s, .int .i64 t, .int .i64 u, .str v, .sl x, .sl y])))]⟩ (kFin R [(.tmp 6, .fz)] [])
theorem E_law25_LtypeOrder (R : Orc) (k : Nat) (w : Bool) (a b : Int) (c d : List FV) (e f : Int) (g h : List FV) (i j : Int) (l m : List FV) (o p q s t u : Int) (v : ByteArray) (x y : List FV) : callL R k w A_law25_LtypeOrder [.fz (.int .i64 a), .fz (.ag [.int .i64 b, .sl c, .sl d, .int .i64 e, .int .i64 f, .sl g, .sl h, .int .i64 i, .int .i64 j, .sl l, .sl m, .int .i64 o]), .fz (.ag [.int .i64 p, .int .i64 q, .int .i64 s, .int .i64 t, .int .i64 u, .str v, .sl x, .sl y])] = onR (R N_law25_of [.fz (.int .i64 a)]) fun r0 => when (List.isEmpty r0.2 && allF [.fz, .fz] r0.1) (onR (R N_law25_may [.fz (toF (List.getD r0.1 1 em)), .fz (.sl [(.ag [.int .i64 b, .sl c, .sl d, .int .i64 e]), (.ag [.int .i64 f, .sl g, .sl h, .int .i64 i]), (.ag [.int .i64 j, .sl l, .sl m, .int .i64 o])])]) fun r1 => when (List.isEmpty r1.2 && allF [.fz] r1.1) (when (isBool (toF (List.getD r1.1 0 em))) (ifB (!(toBool (toF (List.getD r1.1 0 em))))
 (onR (R N_law25_lives []) fun r2 => when (List.isEmpty r2.2 && allF [.fz] r2.1) (when (isBool (toF (List.getD r2.1 0 em))) (some ([.fz (.bool (toBool (toF (List.getD r2.1 0 em))))], []))))
 (onR (R N_ref09_Light [.fz (.ag [.int .i64 p, .int .i64 q, .int .i64 s, .int .i64 t, .int .i64 u, .str v, .sl x, .sl y]), .fz (.int .i64 200)]) fun r3 => when (List.isEmpty r3.2 && allF [.fz] r3.1) (when (isBool (toF (List.getD r3.1 0 em))) (ifB (!(toBool (toF (List.getD r3.1 0 em))))
 (onR (R N_law25_lives []) fun r4 => when (List.isEmpty r4.2 && allF [.fz] r4.1) (when (isBool (toF (List.getD r4.1 0 em))) (some ([.fz (.bool (toBool (toF (List.getD r4.1 0 em))))], []))))
 (onR (R N_ref09_Is [.fz (toF (List.getD r0.1 1 em)), .fz (.ag [.int .i64 p, .int .i64 q, .int .i64 s, .int .i64 t, .int .i64 u, .str v, .sl x, .sl y])]) fun r5 => when (List.isEmpty r5.2 && allF [.fz] r5.1) (when (isBool (toF (List.getD r5.1 0 em))) (ifB (!(toBool (toF (List.getD r5.1 0 em))))
 (onR (R N_law25_lives []) fun r6 => when (List.isEmpty r6.2 && allF [.fz] r6.1) (when (isBool (toF (List.getD r6.1 0 em))) (some ([.fz (.bool (toBool (toF (List.getD r6.1 0 em))))], []))))
 (jump w (J_law25_LtypeOrder_6_0 R k w (toF (List.getD r0.1 0 em)) b c d e f g h i j l m o p q s t u v x y))))))))))) := by kernel_rfl
theorem J_law25_LtypeOrder_6_0_eq (R : Orc) (k : Nat) (w : Bool) (a : FV) (b : Int) (c d : List FV) (e f : Int) (g h : List FV) (i j : Int) (l m : List FV) (o p q s t u : Int) (v : ByteArray) (x y : List FV) : J_law25_LtypeOrder_6_0 R k w a b c d e f g h i j l m o p q s t u v x y = onR (R N_ltype_Join [.fz a, .fz (.ag [.int .i64 b, .sl c, .sl d, .int .i64 e]), .fz (.ag [.int .i64 f, .sl g, .sl h, .int .i64 i])]) fun r7 => when (List.isEmpty r7.2 && allF [.fz] r7.1) (when (fits 4 true (toF (List.getD r7.1 0 em))) (onR (R N_ltype_Leq [.fz a, .fz (.ag [.int .i64 b, .sl c, .sl d, .int .i64 e]), .fz (toF (List.getD r7.1 0 em))]) fun r8 => when (List.isEmpty r8.2 && allF [.fz] r8.1) (when (isBool (toF (List.getD r8.1 0 em))) (ifB (!(toBool (toF (List.getD r8.1 0 em))))
 (some ([.fz (.bool false)], []))
 (onR (R N_ltype_Leq [.fz a, .fz (.ag [.int .i64 f, .sl g, .sl h, .int .i64 i]), .fz (toF (List.getD r7.1 0 em))]) fun r9 => when (List.isEmpty r9.2 && allF [.fz] r9.1) (when (isBool (toF (List.getD r9.1 0 em))) (ifB (!(toBool (toF (List.getD r9.1 0 em))))
 (some ([.fz (.bool false)], []))
 (onR (R N_ltype_Leq [.fz a, .fz (.ag [.int .i64 b, .sl c, .sl d, .int .i64 e]), .fz (.ag [.int .i64 b, .sl c, .sl d, .int .i64 e])]) fun r10 => when (List.isEmpty r10.2 && allF [.fz] r10.1) (when (isBool (toF (List.getD r10.1 0 em))) (ifB (!(toBool (toF (List.getD r10.1 0 em))))
 (some ([.fz (.bool false)], []))
 (jump w (J_law25_LtypeOrder_5_0 R k w a b c d e f g h i j l m o p q s t u v x y (toF (List.getD r7.1 0 em)))))))))))))) := by kernel_rfl
theorem J_law25_LtypeOrder_5_0_eq (R : Orc) (k : Nat) (w : Bool) (a : FV) (b : Int) (c d : List FV) (e f : Int) (g h : List FV) (i j : Int) (l m : List FV) (o p q s t u : Int) (v : ByteArray) (x y : List FV) (z : FV) : J_law25_LtypeOrder_5_0 R k w a b c d e f g h i j l m o p q s t u v x y z = onR (R N_ltype_Leq [.fz a, .fz (.ag [.int .i64 b, .sl c, .sl d, .int .i64 e]), .fz (.ag [.int .i64 j, .sl l, .sl m, .int .i64 o])]) fun r11 => when (List.isEmpty r11.2 && allF [.fz] r11.1) (when (isBool (toF (List.getD r11.1 0 em))) (ifB (toBool (toF (List.getD r11.1 0 em)))
 (onR (R N_ltype_Leq [.fz a, .fz (.ag [.int .i64 f, .sl g, .sl h, .int .i64 i]), .fz (.ag [.int .i64 j, .sl l, .sl m, .int .i64 o])]) fun r12 => when (List.isEmpty r12.2 && allF [.fz] r12.1) (when (isBool (toF (List.getD r12.1 0 em))) (ifB (toBool (toF (List.getD r12.1 0 em)))
 (onR (R N_ltype_Leq [.fz a, .fz z, .fz (.ag [.int .i64 j, .sl l, .sl m, .int .i64 o])]) fun r13 => when (List.isEmpty r13.2 && allF [.fz] r13.1) (when (isBool (toF (List.getD r13.1 0 em))) (ifB (!(toBool (toF (List.getD r13.1 0 em))))
 (some ([.fz (.bool false)], []))
 (jump w (J_law25_LtypeOrder_4_0 R k w a b c d e f g h i j l m o p q s t u v x y z)))))
 (jump w (J_law25_LtypeOrder_4_0 R k w a b c d e f g h i j l m o p q s t u v x y z)))))
 (jump w (J_law25_LtypeOrder_4_0 R k w a b c d e f g h i j l m o p q s t u v x y z)))) := by kernel_rfl
theorem J_law25_LtypeOrder_4_0_eq (R : Orc) (k : Nat) (w : Bool) (a : FV) (b : Int) (c d : List FV) (e f : Int) (g h : List FV) (i j : Int) (l m : List FV) (o p q s t u : Int) (v : ByteArray) (x y : List FV) (z : FV) : J_law25_LtypeOrder_4_0 R k w a b c d e f g h i j l m o p q s t u v x y z = onR (R N_ltype_Leq [.fz a, .fz (.ag [.int .i64 b, .sl c, .sl d, .int .i64 e]), .fz (.ag [.int .i64 f, .sl g, .sl h, .int .i64 i])]) fun r14 => when (List.isEmpty r14.2 && allF [.fz] r14.1) (when (isBool (toF (List.getD r14.1 0 em))) (ifB (toBool (toF (List.getD r14.1 0 em)))
 (onR (R N_ltype_Leq [.fz a, .fz (.ag [.int .i64 f, .sl g, .sl h, .int .i64 i]), .fz (.ag [.int .i64 j, .sl l, .sl m, .int .i64 o])]) fun r15 => when (List.isEmpty r15.2 && allF [.fz] r15.1) (when (isBool (toF (List.getD r15.1 0 em))) (ifB (toBool (toF (List.getD r15.1 0 em)))
 (onR (R N_ltype_Leq [.fz a, .fz (.ag [.int .i64 b, .sl c, .sl d, .int .i64 e]), .fz (.ag [.int .i64 j, .sl l, .sl m, .int .i64 o])]) fun r16 => when (List.isEmpty r16.2 && allF [.fz] r16.1) (when (isBool (toF (List.getD r16.1 0 em))) (ifB (!(toBool (toF (List.getD r16.1 0 em))))
 (some ([.fz (.bool false)], []))
 (jump w (J_law25_LtypeOrder_3_0 R k w a b c d e f g h i j l m o p q s t u v x y z)))))
 (jump w (J_law25_LtypeOrder_3_0 R k w a b c d e f g h i j l m o p q s t u v x y z)))))
 (jump w (J_law25_LtypeOrder_3_0 R k w a b c d e f g h i j l m o p q s t u v x y z)))) := by kernel_rfl
theorem J_law25_LtypeOrder_3_0_eq (R : Orc) (k : Nat) (w : Bool) (a : FV) (b : Int) (c d : List FV) (e f : Int) (g h : List FV) (i j : Int) (l m : List FV) (o p q s t u : Int) (v : ByteArray) (x y : List FV) (z : FV) : J_law25_LtypeOrder_3_0 R k w a b c d e f g h i j l m o p q s t u v x y z = onR (R N_ltype_Cut [.fz a, .fz (.ag [.int .i64 b, .sl c, .sl d, .int .i64 e]), .fz (.int .i64 1)]) fun r17 => when (List.isEmpty r17.2 && allF [.fz] r17.1) (onR (R N_ltype_Leq [.fz a, .fz (.ag [.int .i64 b, .sl c, .sl d, .int .i64 e]), .fz (toF (List.getD r17.1 0 em))]) fun r18 => when (List.isEmpty r18.2 && allF [.fz] r18.1) (when (isBool (toF (List.getD r18.1 0 em))) (ifB (!(toBool (toF (List.getD r18.1 0 em))))
 (some ([.fz (.bool false)], []))
 (onR (R N_ltype_Cut [.fz a, .fz (.ag [.int .i64 b, .sl c, .sl d, .int .i64 e]), .fz (.int .i64 0)]) fun r19 => when (List.isEmpty r19.2 && allF [.fz] r19.1) (onR (R N_ltype_Leq [.fz a, .fz (.ag [.int .i64 b, .sl c, .sl d, .int .i64 e]), .fz (toF (List.getD r19.1 0 em))]) fun r20 => when (List.isEmpty r20.2 && allF [.fz] r20.1) (when (isBool (toF (List.getD r20.1 0 em))) (ifB (!(toBool (toF (List.getD r20.1 0 em))))
 (some ([.fz (.bool false)], []))
 (jump w (J_law25_LtypeOrder_2_0 R k w a b c d e f g h i j l m o p q s t u v x y z))))))))) := by kernel_rfl
theorem J_law25_LtypeOrder_2_0_eq (R : Orc) (k : Nat) (w : Bool) (a : FV) (b : Int) (c d : List FV) (e f : Int) (g h : List FV) (i j : Int) (l m : List FV) (o p q s t u : Int) (v : ByteArray) (x y : List FV) (z : FV) : J_law25_LtypeOrder_2_0 R k w a b c d e f g h i j l m o p q s t u v x y z = onR (R N_ltype_Fits [.fz a, .fz (.ag [.int .i64 b, .sl c, .sl d, .int .i64 e]), .fz (.ag [.int .i64 p, .int .i64 q, .int .i64 s, .int .i64 t, .int .i64 u, .str v, .sl x, .sl y])]) fun r21 => when (List.isEmpty r21.2 && allF [.fz] r21.1) (when (isBool (toF (List.getD r21.1 0 em))) (ifB (toBool (toF (List.getD r21.1 0 em)))
 (onR (R N_ltype_Fits [.fz a, .fz z, .fz (.ag [.int .i64 p, .int .i64 q, .int .i64 s, .int .i64 t, .int .i64 u, .str v, .sl x, .sl y])]) fun r22 => when (List.isEmpty r22.2 && allF [.fz] r22.1) (when (isBool (toF (List.getD r22.1 0 em))) (ifB (!(toBool (toF (List.getD r22.1 0 em))))
 (some ([.fz (.bool false)], []))
 (jump w (J_law25_LtypeOrder_1_0 R k w a b c d e f g h i j l m o p q s t u v x y)))))
 (jump w (J_law25_LtypeOrder_1_0 R k w a b c d e f g h i j l m o p q s t u v x y)))) := by kernel_rfl
theorem J_law25_LtypeOrder_1_0_eq (R : Orc) (k : Nat) (w : Bool) (a : FV) (b : Int) (c d : List FV) (e f : Int) (g h : List FV) (i j : Int) (l m : List FV) (o p q s t u : Int) (v : ByteArray) (x y : List FV) : J_law25_LtypeOrder_1_0 R k w a b c d e f g h i j l m o p q s t u v x y = onR (R N_ltype_Fits [.fz a, .fz (.ag [.int .i64 b, .sl c, .sl d, .int .i64 e]), .fz (.ag [.int .i64 p, .int .i64 q, .int .i64 s, .int .i64 t, .int .i64 u, .str v, .sl x, .sl y])]) fun r23 => when (List.isEmpty r23.2 && allF [.fz] r23.1) (when (isBool (toF (List.getD r23.1 0 em))) (ifB (!(toBool (toF (List.getD r23.1 0 em))))
 (onR (R N_law25_lives []) fun r24 => when (List.isEmpty r24.2 && allF [.fz] r24.1) (when (isBool (toF (List.getD r24.1 0 em))) (some ([.fz (.bool (toBool (toF (List.getD r24.1 0 em))))], []))))
 (onR (R N_ltype_Node [.fz a, .fz (.ag [.int .i64 p, .int .i64 q, .int .i64 s, .int .i64 t, .int .i64 u, .str v, .sl x, .sl y])]) fun r25 => when (List.isEmpty r25.2 && allF [.fz] r25.1) (onR (R N_ltype_Cut [.fz a, .fz (toF (List.getD r25.1 0 em)), .fz (.int .i64 0)]) fun r26 => when (List.isEmpty r26.2 && allF [.fz] r26.1) (onR (R N_ltype_Cut [.fz a, .fz (.ag [.int .i64 b, .sl c, .sl d, .int .i64 e]), .fz (.int .i64 0)]) fun r27 => when (List.isEmpty r27.2 && allF [.fz] r27.1) (onR (R N_ltype_Leq [.fz a, .fz (toF (List.getD r26.1 0 em)), .fz (toF (List.getD r27.1 0 em))]) fun r28 => when (List.isEmpty r28.2 && allF [.fz] r28.1) (when (isBool (toF (List.getD r28.1 0 em))) (ifB (toBool (toF (List.getD r28.1 0 em)))
 (onR (R N_law25_lives []) fun r29 => when (List.isEmpty r29.2 && allF [.fz] r29.1) (when (isBool (toF (List.getD r29.1 0 em))) (some ([.fz (.bool (toBool (toF (List.getD r29.1 0 em))))], []))))
 (some ([.fz (.bool false)], [])))))))))) := by kernel_rfl
/-! keyhole/keyholeref25.Light -/
def C_ref25_Light : ACode := codeOf 9 Try.f9
def A_ref25_Light : AFunc := ⟨2, [(.tmp 4, .fz)], C_ref25_Light, none⟩
theorem E_ref25_Light (R : Orc) (k : Nat) (w : Bool) (a : Int) (b c : List FV) (d e : Int) : callL R k w A_ref25_Light [.fz (.ag [.int .i64 a, .sl b, .sl c, .int .i64 d]), .fz (.int .i64 e)] = onR (R N_ref25_Size [.fz (.ag [.int .i64 a, .sl b, .sl c, .int .i64 d]), .fz (.int .i64 0), .fz (.int .i64 (IntKind.wrap .i64 (e + 1)))]) fun r0 => when (List.isEmpty r0.2 && allF [.fz] r0.1) (when (isInt .i64 (toF (List.getD r0.1 0 em))) (ifB (decide ((toInt (toF (List.getD r0.1 0 em))) ≤ e))
 (onR (R N_ref25_flat [.fz (.ag [.int .i64 a, .sl b, .sl c, .int .i64 d]), .fz (.int .i64 20)]) fun r1 => when (List.isEmpty r1.2 && allF [.fz] r1.1) (when (isBool (toF (List.getD r1.1 0 em))) (ifB (toBool (toF (List.getD r1.1 0 em)))
 (some ([.fz (.bool (decide ((List.length b : Int) ≤ 500)))], []))
 (some ([.fz (.bool false)], [])))))
 (some ([.fz (.bool false)], [])))) := by kernel_rfl
/-! keyhole/keyholelaw25.lives -/
def C_law25_lives : ACode := codeOf 10 Try.f10
def A_law25_lives : AFunc := ⟨0, [(.tmp 0, .fz)], C_law25_lives, none⟩
/-! keyhole/keyholelaw25.of -/
def C_law25_of : ACode := codeOf 11 Try.f11
def A_law25_of : AFunc := ⟨1, [(.tmp 2, .fz), (.tmp 3, .fz)], C_law25_of, none⟩
theorem E_law25_of (R : Orc) (k : Nat) (w : Bool) (a : Int) : callL R k w A_law25_of [.fz (.int .i64 a)] = onR (R N_ref01_Sort [.fz (.int .i64 a)]) fun r0 => when (List.isEmpty r0.2 && allF [.fz] r0.1) (when (fits 3 true (toF (List.getD r0.1 0 em))) (onR (R N_level_New [.fz (toF (List.getD r0.1 0 em))]) fun r1 => when (List.isEmpty r1.2 && allF [.fz, .fz] r1.1) (when (isInt .i64 (toF (List.getD r1.1 1 em))) (onR (R N_ref01_Table [.fz (toF (List.getD r0.1 0 em))]) fun r2 => when (List.isEmpty r2.2 && allF [.fz] r2.1) (some ([.fz (toF (List.getD r1.1 0 em)), .fz (toF (List.getD r2.1 0 em))], [])))))) := by kernel_rfl
/-! keyhole/ltype.Plain -/
def C_ltype_Plain : ACode := codeOf 12 Try.f12
def A_ltype_Plain : AFunc := ⟨1, [(.cell 2 4 true, .fz)], C_ltype_Plain, none⟩
theorem E_ltype_Plain (R : Orc) (k : Nat) (w : Bool) (a : Int) : callL R k w A_ltype_Plain [.fz (.int .i64 a)] = some ([.fz (.ag [.int .i64 a, .sl [], .sl [], .int .i64 a])], []) := by kernel_rfl
/-! keyhole/ltype.Is -/
def C_ltype_Is : ACode := codeOf 13 Try.f13
def A_ltype_Is : AFunc := ⟨2, [(.tmp 4, .fz)], C_ltype_Is, none⟩
/-! keyhole/keyholeref25.Is -/
def C_ref25_Is : ACode := codeOf 14 Try.f14
def A_ref25_Is_j1 : ACode := C_ref25_Is.at [1, 1, 0, 0, 1, 0, 0, 1, 0, 0, 1, 0]
def A_ref25_Is_s2 : ACode := C_ref25_Is.at [1, 1, 0, 0, 1, 0, 0, 1, 1]
def A_ref25_Is_b1 : ACode := C_ref25_Is.at [1, 1, 0, 0, 1, 0, 0]
def A_ref25_Is_s3 : ACode := C_ref25_Is.at [1, 1, 0, 1]
def A_ref25_Is_j4 : ACode := C_ref25_Is.at [1, 1, 0]
def A_ref25_Is : AFunc := ⟨3, [(.tmp 6, .fz)], C_ref25_Is, none⟩
def J_ref25_Is_4_0 (R : Orc) (k : Nat) (w : Bool) (a : List FV) (b c : Int) (d e : List FV) (f : Int) := execL R k w [] A_ref25_Is_j4 Ans ⟨[(0, .fz (.sl a)), (2, .fz (.int .i64 b)), (4, .ptr 4096 0 0)], [(4095, .dead), (4096, .var 4 true (.fz (.ag [.int .i64 c, .sl d, .sl e, .int .i64 f])))]⟩ (kFin R [(.tmp 6, .fz)] [])
def K_ref25_Is_1 (R : Orc) (k : Nat) (w : Bool) : AExit → St → Option Ans := (kBlk 0 (kSeq R k w [] A_ref25_Is_s3 (kFin R [(.tmp 6, .fz)] [])))
def L_ref25_Is_1_0 (R : Orc) (k : Nat) (w : Bool) (n : Nat) (a : List FV) (b c d : Int) (e f : List FV) (g : Int) := loopL R k w [] [0, 2, 4, 7] [6] A_ref25_Is_b1 n ⟨[(0, .fz (.sl a)), (2, .fz (.int .i64 b)), (4, .ptr 4096 0 0), (7, .fz (.int .i64 c))], [(4095, .dead), (4096, .var 4 true (.fz (.ag [.int .i64 d, .sl e, .sl f, .int .i64 g])))]⟩
def X_ref25_Is_1_0 (a : Bool) : St := ⟨[(6, .fz (.bool a))], [(4095, .dead)]⟩
def J_ref25_Is_1_0 (R : Orc) (k : Nat) (w : Bool) (n : Nat) (a : List FV) (b c d : Int) (e f : List FV) (g : Int) := execL R k w [] A_ref25_Is_j1 (AExit × St) ⟨[(0, .fz (.sl a)), (2, .fz (.int .i64 b)), (4, .ptr 4096 0 0), (7, .fz (.int .i64 c))], [(4095, .dead), (4096, .var 4 true (.fz (.ag [.int .i64 d, .sl e, .sl f, .int .i64 g])))]⟩ (kBlk 1 (kSeq R k w [] A_ref25_Is_s2 (kLoop R k w [] [0, 2, 4, 7] [6] A_ref25_Is_b1 n)))
def X_ref25_Is_1_1 : St := ⟨[], [(4095, .dead)]⟩
theorem E_ref25_Is (R : Orc) (k : Nat) (w : Bool) (a : List FV) (b : Int) (c d : List FV) (e f : Int) : callL R k w A_ref25_Is [.fz (.sl a), .fz (.ag [.int .i64 b, .sl c, .sl d, .int .i64 e]), .fz (.int .i64 f)] = ifB (decide (f > 3))
 (some ([.fz (.bool false)], []))
 (ifB (decide (b < 0))
 (some ([.fz (.bool false)], []))
 (ifB (decide (b ≥ (List.length a : Int)))
 (some ([.fz (.bool false)], []))
 (ifB (decide (e < 0))
 (some ([.fz (.bool false)], []))
 (ifB (decide (e ≥ (List.length a : Int)))
 (some ([.fz (.bool false)], []))
 (ifB ((List.length c : Int) != (List.length d : Int))
 (some ([.fz (.bool false)], []))
 (jump w (J_ref25_Is_4_0 R k w a f b c d e))))))) := by kernel_rfl
theorem J_ref25_Is_4_0_eq (R : Orc) (k : Nat) (w : Bool) (a : List FV) (b c : Int) (d e : List FV) (f : Int) : J_ref25_Is_4_0 R k w a b c d e f = onL (L_ref25_Is_1_0 R k w k a b 0 c d e f) (K_ref25_Is_1 R k w) := by kernel_rfl
theorem L_ref25_Is_1_0_eq (R : Orc) (k : Nat) (w : Bool) (n : Nat) (a : List FV) (b c d : Int) (e f : List FV) (g : Int) : L_ref25_Is_1_0 R k w (n + 1) a b c d e f g = ifB (decide (c < (List.length e : Int)))
 (ifB (decide (c > 0))
 (when ((decide (0 ≤ c)) && (decide (c < (List.length e : Int)))) (when (fits 1 false (List.getD e (Int.toNat c) nilp)) (when (isStr (List.getD e (Int.toNat c) nilp)) (when ((decide (0 ≤ (IntKind.wrap .i64 (c - 1)))) && (decide ((IntKind.wrap .i64 (c - 1)) < (List.length e : Int)))) (when (fits 1 false (List.getD e (Int.toNat (IntKind.wrap .i64 (c - 1))) nilp)) (when (isStr (List.getD e (Int.toNat (IntKind.wrap .i64 (c - 1))) nilp)) (ifB (Op.bytesLess (ByteArray.toList (toStr (List.getD e (Int.toNat c) nilp))) (ByteArray.toList (toStr (List.getD e (Int.toNat (IntKind.wrap .i64 (c - 1))) nilp))) || ByteArray.toList (toStr (List.getD e (Int.toNat c) nilp)) == ByteArray.toList (toStr (List.getD e (Int.toNat (IntKind.wrap .i64 (c - 1))) nilp)))
 (some (.ret, X_ref25_Is_1_0 false))
 (jump w (J_ref25_Is_1_0 R k w n a b c d e f g)))))))))
 (jump w (J_ref25_Is_1_0 R k w n a b c d e f g)))
 (some ((.exit 0), X_ref25_Is_1_1)) := by kernel_rfl
theorem X_ref25_Is_1_0_eq (R : Orc) (k : Nat) (w a : Bool) : K_ref25_Is_1 R k w .ret (X_ref25_Is_1_0 a) = some ([.fz (.bool a)], []) := by kernel_rfl
theorem J_ref25_Is_1_0_eq (R : Orc) (k : Nat) (w : Bool) (n : Nat) (a : List FV) (b c d : Int) (e f : List FV) (g : Int) : J_ref25_Is_1_0 R k w n a b c d e f g = when ((decide (0 ≤ c)) && (decide (c < (List.length f : Int)))) (when (fits 4 true (List.getD f (Int.toNat c) nilp)) (onR (R N_ref25_Is [.fz (.sl a), .fz (List.getD f (Int.toNat c) nilp), .fz (.int .i64 (IntKind.wrap .i64 (b + 1)))]) fun r0 => when (List.isEmpty r0.2 && allF [.fz] r0.1) (when (isBool (toF (List.getD r0.1 0 em))) (ifB (!(toBool (toF (List.getD r0.1 0 em))))
 (some (.ret, X_ref25_Is_1_0 false))
 (L_ref25_Is_1_0 R k w n a b (IntKind.wrap .i64 (c + 1)) d e f g))))) := by kernel_rfl
theorem X_ref25_Is_1_1_eq (R : Orc) (k : Nat) (w : Bool) : K_ref25_Is_1 R k w (.exit 0) (X_ref25_Is_1_1) = some ([.fz (.bool true)], []) := by kernel_rfl
/-! keyhole/keyholelaw25.may -/
def C_law25_may : ACode := codeOf 15 Try.f15
def A_law25_may_j1 : ACode := C_law25_may.at [1, 0, 1, 0, 0, 1, 0]
def A_law25_may_b1 : ACode := C_law25_may.at [1, 0, 1, 0, 0]
def A_law25_may_s2 : ACode := C_law25_may.at [1, 1]
def A_law25_may : AFunc := ⟨2, [(.tmp 4, .fz)], C_law25_may, none⟩
def K_law25_may_1 (R : Orc) (k : Nat) (w : Bool) : AExit → St → Option Ans := (kBlk 0 (kSeq R k w [] A_law25_may_s2 (kFin R [(.tmp 4, .fz)] [])))
def L_law25_may_1_0 (R : Orc) (k : Nat) (w : Bool) (n : Nat) (a b : List FV) (c : Int) := loopL R k w [] [0, 1, 5] [1, 4] A_law25_may_b1 n ⟨[(0, .fz (.sl a)), (1, .fz (.sl b)), (5, .fz (.int .i64 c))], [(4095, .dead)]⟩
def J_law25_may_1_0 (R : Orc) (k : Nat) (w : Bool) (n : Nat) (a b : List FV) (c : Int) := execL R k w [] A_law25_may_j1 (AExit × St) ⟨[(0, .fz (.sl a)), (1, .fz (.sl b)), (5, .fz (.int .i64 c))], [(4095, .dead)]⟩ (kLoop R k w [] [0, 1, 5] [1, 4] A_law25_may_b1 n)
def X_law25_may_1_0 (a : List FV) : St := ⟨[(1, .fz (.sl a))], [(4095, .dead)]⟩
def X_law25_may_1_1 (a : List FV) (b : Bool) : St := ⟨[(1, .fz (.sl a)), (4, .fz (.bool b))], [(4095, .dead)]⟩
theorem E_law25_may (R : Orc) (k : Nat) (w : Bool) (a b : List FV) : callL R k w A_law25_may [.fz (.sl a), .fz (.sl b)] = onL (L_law25_may_1_0 R k w k a b 0) (K_law25_may_1 R k w) := by kernel_rfl
theorem L_law25_may_1_0_eq (R : Orc) (k : Nat) (w : Bool) (n : Nat) (a b : List FV) (c : Int) : L_law25_may_1_0 R k w (n + 1) a b c = ifB (decide (c < (List.length b : Int)))
 (ifB (decide (c < 5))
 (jump w (J_law25_may_1_0 R k w n a b c))
 (some ((.exit 0), X_law25_may_1_0 b)))
 (some ((.exit 0), X_law25_may_1_0 b)) := by kernel_rfl
theorem J_law25_may_1_0_eq (R : Orc) (k : Nat) (w : Bool) (n : Nat) (a b : List FV) (c : Int) : J_law25_may_1_0 R k w n a b c = when ((decide (0 ≤ c)) && (decide (c < (List.length b : Int)))) (when (fits 4 true (List.getD b (Int.toNat c) nilp)) (onR (R N_ref25_Light [.fz (List.getD b (Int.toNat c) nilp), .fz (.int .i64 200)]) fun r0 => when (List.isEmpty r0.2 && allF [.fz] r0.1) (when (isBool (toF (List.getD r0.1 0 em))) (ifB (!(toBool (toF (List.getD r0.1 0 em))))
 (some (.ret, X_law25_may_1_1 b false))
 (when ((decide (0 ≤ c)) && (decide (c < (List.length b : Int)))) (when (fits 4 true (List.getD b (Int.toNat c) nilp)) (onR (R N_ref25_Is [.fz (.sl a), .fz (List.getD b (Int.toNat c) nilp), .fz (.int .i64 0)]) fun r1 => when (List.isEmpty r1.2 && allF [.fz] r1.1) (when (isBool (toF (List.getD r1.1 0 em))) (ifB (!(toBool (toF (List.getD r1.1 0 em))))
 (some (.ret, X_law25_may_1_1 b false))
 (L_law25_may_1_0 R k w n a b (IntKind.wrap .i64 (c + 1)))))))))))) := by kernel_rfl
theorem X_law25_may_1_0_eq (R : Orc) (k : Nat) (w : Bool) (a : List FV) : K_law25_may_1 R k w (.exit 0) (X_law25_may_1_0 a) = some ([.fz (.bool (decide ((List.length a : Int) ≤ 4)))], []) := by kernel_rfl
theorem X_law25_may_1_1_eq (R : Orc) (k : Nat) (w : Bool) (a : List FV) (b : Bool) : K_law25_may_1 R k w .ret (X_law25_may_1_1 a b) = some ([.fz (.bool b)], []) := by kernel_rfl
/-! keyhole/keyholeref09.Light -/
def C_ref09_Light : ACode := codeOf 16 Try.f16
def A_ref09_Light : AFunc := ⟨2, [(.tmp 4, .fz)], C_ref09_Light, none⟩
theorem E_ref09_Light (R : Orc) (k : Nat) (w : Bool) (a b c d e : Int) (f : ByteArray) (g h : List FV) (i : Int) : callL R k w A_ref09_Light [.fz (.ag [.int .i64 a, .int .i64 b, .int .i64 c, .int .i64 d, .int .i64 e, .str f, .sl g, .sl h]), .fz (.int .i64 i)] = onR (R N_ref09_Size [.fz (.ag [.int .i64 a, .int .i64 b, .int .i64 c, .int .i64 d, .int .i64 e, .str f, .sl g, .sl h]), .fz (.int .i64 0), .fz (.int .i64 (IntKind.wrap .i64 (i + 1)))]) fun r0 => when (List.isEmpty r0.2 && allF [.fz] r0.1) (when (isInt .i64 (toF (List.getD r0.1 0 em))) (ifB (decide ((toInt (toF (List.getD r0.1 0 em))) ≤ i))
 (onR (R N_ref09_Flat [.fz (.ag [.int .i64 a, .int .i64 b, .int .i64 c, .int .i64 d, .int .i64 e, .str f, .sl g, .sl h]), .fz (.int .i64 60)]) fun r1 => when (List.isEmpty r1.2 && allF [.fz] r1.1) (when (isBool (toF (List.getD r1.1 0 em))) (some ([.fz (.bool (toBool (toF (List.getD r1.1 0 em))))], []))))
 (some ([.fz (.bool false)], [])))) := by kernel_rfl
/-! keyhole/keyholeref09.Is -/
def C_ref09_Is : ACode := codeOf 17 Try.f17
def A_ref09_Is : AFunc := ⟨2, [(.tmp 4, .fz)], C_ref09_Is, none⟩
theorem E_ref09_Is (R : Orc) (k : Nat) (w : Bool) (a : List FV) (b c d e f : Int) (g : ByteArray) (h i : List FV) : callL R k w A_ref09_Is [.fz (.sl a), .fz (.ag [.int .i64 b, .int .i64 c, .int .i64 d, .int .i64 e, .int .i64 f, .str g, .sl h, .sl i])] = onR (R N_ref09_Labels [.fz (.sl a), .fz (.ag [.int .i64 b, .int .i64 c, .int .i64 d, .int .i64 e, .int .i64 f, .str g, .sl h, .sl i])]) fun r0 => when (List.isEmpty r0.2 && allF [.fz] r0.1) (when (isBool (toF (List.getD r0.1 0 em))) (ifB (toBool (toF (List.getD r0.1 0 em)))
 (onR (R N_ref09_right [.fz (.sl a), .fz (.ag [.int .i64 b, .int .i64 c, .int .i64 d, .int .i64 e, .int .i64 f, .str g, .sl h, .sl i])]) fun r1 => when (List.isEmpty r1.2 && allF [.fz] r1.1) (when (isBool (toF (List.getD r1.1 0 em))) (ifB (toBool (toF (List.getD r1.1 0 em)))
 (onR (R N_ref09_Strip [.fz (.ag [.int .i64 b, .int .i64 c, .int .i64 d, .int .i64 e, .int .i64 f, .str g, .sl h, .sl i])]) fun r2 => when (List.isEmpty r2.2 && allF [.fz] r2.1) (onR (R N_ref09_shape [.fz (toF (List.getD r2.1 0 em))]) fun r3 => when (List.isEmpty r3.2 && allF [.fz] r3.1) (when (isBool (toF (List.getD r3.1 0 em))) (some ([.fz (.bool (toBool (toF (List.getD r3.1 0 em))))], [])))))
 (some ([.fz (.bool false)], [])))))
 (some ([.fz (.bool false)], [])))) := by kernel_rfl
/-! keyhole/keyholeref25.Cut -/
def C_ref25_Cut : ACode := codeOf 18 Try.f18
def A_ref25_Cut : AFunc := ⟨3, [(.cell 6 4 true, .fz)], C_ref25_Cut, none⟩
/-! keyhole/keyholeref25.Whole -/
def C_ref25_Whole : ACode := codeOf 19 Try.f19
def A_ref25_Whole : AFunc := ⟨2, [(.cell 4 4 true, .fz)], C_ref25_Whole, none⟩
/-! keyhole/ltype.Node -/
def C_ltype_Node : ACode := codeOf 20 Try.f20
def A_ltype_Node : AFunc := ⟨2, [(.cell 4 4 true, .fz)], C_ltype_Node, none⟩
theorem E_ltype_Node (R : Orc) (k : Nat) (w : Bool) (a : FV) (b c d e f : Int) (g : ByteArray) (h i : List FV) : callL R k w A_ltype_Node [.fz (.pt 195 true a 0), .fz (.ag [.int .i64 b, .int .i64 c, .int .i64 d, .int .i64 e, .int .i64 f, .str g, .sl h, .sl i])] = onR (R N_ltype_least [.fz (.pt 195 true a 0), .fz (.ag [.int .i64 b, .int .i64 c, .int .i64 d, .int .i64 e, .int .i64 f, .str g, .sl h, .sl i]), .fz (.int .i64 3)]) fun r0 => when (List.isEmpty r0.2 && allF [.fz] r0.1) (when (fits 4 true (toF (List.getD r0.1 0 em))) (some ([.fz (toF (List.getD r0.1 0 em))], []))) := by kernel_rfl
/-! keyhole/ltype.Fits -/
def C_ltype_Fits : ACode := codeOf 21 Try.f21
def A_ltype_Fits : AFunc := ⟨3, [(.tmp 6, .fz)], C_ltype_Fits, none⟩
theorem E_ltype_Fits (R : Orc) (k : Nat) (w : Bool) (a : FV) (b : Int) (c d : List FV) (e f g h i j : Int) (l : ByteArray) (m o : List FV) : callL R k w A_ltype_Fits [.fz (.pt 195 true a 0), .fz (.ag [.int .i64 b, .sl c, .sl d, .int .i64 e]), .fz (.ag [.int .i64 f, .int .i64 g, .int .i64 h, .int .i64 i, .int .i64 j, .str l, .sl m, .sl o])] = onR (R N_level_Lattice_Leq [.fz (.pt 195 true a 0), .fz (.int .i64 f), .fz (.int .i64 b)]) fun r0 => when (List.isEmpty r0.2 && allF [.fz] r0.1) (when (isBool (toF (List.getD r0.1 0 em))) (ifB (toBool (toF (List.getD r0.1 0 em)))
 (onR (R N_ltype_items [.fz (.pt 195 true a 0), .fz (.ag [.int .i64 b, .sl c, .sl d, .int .i64 e]), .fz (.ag [.int .i64 f, .int .i64 g, .int .i64 h, .int .i64 i, .int .i64 j, .str l, .sl m, .sl o])]) fun r1 => when (List.isEmpty r1.2 && allF [.fz] r1.1) (when (isBool (toF (List.getD r1.1 0 em))) (some ([.fz (.bool (toBool (toF (List.getD r1.1 0 em))))], []))))
 (some ([.fz (.bool false)], [])))) := by kernel_rfl
/-! keyhole/keyholeref25.Fits -/
def C_ref25_Fits : ACode := codeOf 22 Try.f22
def A_ref25_Fits : AFunc := ⟨3, [(.tmp 6, .fz)], C_ref25_Fits, none⟩
/-! keyhole/keyholeref25.Same -/
def C_ref25_Same : ACode := codeOf 23 Try.f23
def A_ref25_Same : AFunc := ⟨2, [(.tmp 4, .fz)], C_ref25_Same, none⟩
/-! keyhole/ltype.Leq -/
def C_ltype_Leq : ACode := codeOf 24 Try.f24
def A_ltype_Leq_j1 : ACode := C_ltype_Leq.at [1, 1, 0]
def A_ltype_Leq : AFunc := ⟨3, [(.tmp 6, .fz)], C_ltype_Leq, none⟩
def J_ltype_Leq_1_0 (R : Orc) (k : Nat) (w : Bool) (a : FV) (b : Int) (c d : List FV) (e f : Int) (g h : List FV) (i : Int) := execL R k w [] A_ltype_Leq_j1 Ans ⟨[(3, .ptr 4096 0 0), (4, .ptr 4097 0 0), (5, .ptr 4098 0 0)], [(4095, .dead), (4096, .var 1 false (.fz (.pt 195 true a 0))), (4097, .var 4 true (.fz (.ag [.int .i64 b, .sl c, .sl d, .int .i64 e]))), (4098, .var 4 true (.fz (.ag [.int .i64 f, .sl g, .sl h, .int .i64 i])))]⟩ (kFin R [(.tmp 6, .fz)] [])
theorem E_ltype_Leq (R : Orc) (k : Nat) (w : Bool) (a : FV) (b : Int) (c d : List FV) (e f : Int) (g h : List FV) (i : Int) : callL R k w A_ltype_Leq [.fz (.pt 195 true a 0), .fz (.ag [.int .i64 b, .sl c, .sl d, .int .i64 e]), .fz (.ag [.int .i64 f, .sl g, .sl h, .int .i64 i])] = onR (R N_level_Lattice_Leq [.fz (.pt 195 true a 0), .fz (.int .i64 b), .fz (.int .i64 f)]) fun r0 => when (List.isEmpty r0.2 && allF [.fz] r0.1) (when (isBool (toF (List.getD r0.1 0 em))) (ifB (!(toBool (toF (List.getD r0.1 0 em))))
 (some ([.fz (.bool false)], []))
 (onR (R N_level_Lattice_Leq [.fz (.pt 195 true a 0), .fz (.int .i64 e), .fz (.int .i64 i)]) fun r1 => when (List.isEmpty r1.2 && allF [.fz] r1.1) (when (isBool (toF (List.getD r1.1 0 em))) (ifB (!(toBool (toF (List.getD r1.1 0 em))))
 (some ([.fz (.bool false)], []))
 (jump w (J_ltype_Leq_1_0 R k w a b c d e f g h i))))))) := by kernel_rfl
theorem J_ltype_Leq_1_0_eq (R : Orc) (k : Nat) (w : Bool) (a : FV) (b : Int) (c d : List FV) (e f : Int) (g h : List FV) (i : Int) : J_ltype_Leq_1_0 R k w a b c d e f g h i = onR (R N_ltype_keys [.fz (.ag [.int .i64 b, .sl c, .sl d, .int .i64 e]), .fz (.ag [.int .i64 f, .sl g, .sl h, .int .i64 i])]) fun r2 => when (List.isEmpty r2.2 && allF [.fz] r2.1) (onR (R N_slices_ContainsFunc___string_string_ [.fz (toF (List.getD r2.1 0 em)), .fz (FV.fn N_ltype_Leq_1 [(.pt 1 false (.pt 195 true a 0) 0), (.pt 4 true (.ag [.int .i64 b, .sl c, .sl d, .int .i64 e]) 0), (.pt 4 true (.ag [.int .i64 f, .sl g, .sl h, .int .i64 i]) 0)])]) fun r3 => when (List.isEmpty r3.2 && allF [.fz] r3.1) (when (isBool (toF (List.getD r3.1 0 em))) (some ([.fz (.bool (!(toBool (toF (List.getD r3.1 0 em)))))], [])))) := by kernel_rfl
/-! keyhole/keyholeref25.Leq -/
def C_ref25_Leq : ACode := codeOf 25 Try.f25
def A_ref25_Leq : AFunc := ⟨3, [(.tmp 6, .fz)], C_ref25_Leq, none⟩
/-! keyhole/ltype.Join -/
def C_ltype_Join : ACode := codeOf 26 Try.f26
def A_ltype_Join_b1 : ACode := C_ltype_Join.at [1, 1, 0, 1, 0, 0]
def A_ltype_Join_s1 : ACode := C_ltype_Join.at [1, 1, 1]
def A_ltype_Join : AFunc := ⟨3, [(.cell 6 4 true, .fz)], C_ltype_Join, none⟩
def K_ltype_Join_1 (R : Orc) (k : Nat) (w : Bool) : AExit → St → Option Ans := (kBlk 0 (kSeq R k w [] A_ltype_Join_s1 (kFin R [(.cell 6 4 true, .fz)] [])))
def L_ltype_Join_1_0 (R : Orc) (k : Nat) (w : Bool) (n : Nat) (a b : FV) (c d e : Int) (f g : List FV) (h i : Int) (j l : List FV) (m o p q : Int) (s : FV) (t : Int) := loopL R k w [] [0, 4, 5, 6, 7, 27, 28, 29] [6, 7] A_ltype_Join_b1 n ⟨[(0, .fz (.pt 195 true a 0)), (4, .ptr 4096 0 0), (5, .ptr 4097 0 0), (6, .ptr 4098 0 0), (7, .ptr 4099 0 0), (27, .fz b), (28, .fz (.int .i64 c)), (29, .fz (.int .i64 d))], [(4095, .dead), (4096, .var 4 true (.fz (.ag [.int .i64 e, .sl f, .sl g, .int .i64 h]))), (4097, .var 4 true (.fz (.ag [.int .i64 i, .sl j, .sl l, .int .i64 m]))), (4098, .var 4 true (.ag [.fz (.int .i64 o), .nils, .nils, .fz (.int .i64 p)])), (4099, .var 4 true (.ag [.fz (.int .i64 q), .fz s, .nils, .fz (.int .i64 t)]))]⟩
def L_ltype_Join_1_1 (R : Orc) (k : Nat) (w : Bool) (n : Nat) (a b : FV) (c d e : Int) (f g : List FV) (h i : Int) (j l : List FV) (m o p q : Int) (s : FV) (t : Int) (u : List FV) := loopL R k w [] [0, 4, 5, 6, 7, 27, 28, 29] [6, 7] A_ltype_Join_b1 n ⟨[(0, .fz (.pt 195 true a 0)), (4, .ptr 4096 0 0), (5, .ptr 4097 0 0), (6, .ptr 4098 0 0), (7, .ptr 4099 0 0), (27, .fz b), (28, .fz (.int .i64 c)), (29, .fz (.int .i64 d))], [(4095, .dead), (4096, .var 4 true (.fz (.ag [.int .i64 e, .sl f, .sl g, .int .i64 h]))), (4097, .var 4 true (.fz (.ag [.int .i64 i, .sl j, .sl l, .int .i64 m]))), (4098, .var 4 true (.ag [.fz (.int .i64 o), .nils, .nils, .fz (.int .i64 p)])), (4099, .var 4 true (.ag [.fz (.int .i64 q), .fz s, .rw 4100, .fz (.int .i64 t)])), (4100, .row 4 true u)]⟩
def X_ltype_Join_1_0 (a b c : Int) (d : FV) (e : Int) : St := ⟨[(6, .ptr 4096 0 0), (7, .ptr 4097 0 0)], [(4095, .dead), (4096, .var 4 true (.ag [.fz (.int .i64 a), .nils, .nils, .fz (.int .i64 b)])), (4097, .var 4 true (.ag [.fz (.int .i64 c), .fz d, .nils, .fz (.int .i64 e)]))]⟩
def X_ltype_Join_1_1 (a b c : Int) (d : FV) (e : Int) (f : List FV) : St := ⟨[(6, .ptr 4096 0 0), (7, .ptr 4097 0 0)], [(4095, .dead), (4096, .var 4 true (.ag [.fz (.int .i64 a), .nils, .nils, .fz (.int .i64 b)])), (4097, .var 4 true (.ag [.fz (.int .i64 c), .fz d, .rw 4098, .fz (.int .i64 e)])), (4098, .row 4 true f)]⟩
theorem E_ltype_Join (R : Orc) (k : Nat) (w : Bool) (a : FV) (b : Int) (c d : List FV) (e f : Int) (g h : List FV) (i : Int) : callL R k w A_ltype_Join [.fz (.pt 195 true a 0), .fz (.ag [.int .i64 b, .sl c, .sl d, .int .i64 e]), .fz (.ag [.int .i64 f, .sl g, .sl h, .int .i64 i])] = onR (R N_level_Lattice_Join [.fz (.pt 195 true a 0), .fz (.int .i64 b), .fz (.int .i64 f)]) fun r0 => when (List.isEmpty r0.2 && allF [.fz] r0.1) (when (isInt .i64 (toF (List.getD r0.1 0 em))) (onR (R N_level_Lattice_Join [.fz (.pt 195 true a 0), .fz (.int .i64 e), .fz (.int .i64 i)]) fun r1 => when (List.isEmpty r1.2 && allF [.fz] r1.1) (when (isInt .i64 (toF (List.getD r1.1 0 em))) (onR (R N_ltype_keys [.fz (.ag [.int .i64 b, .sl c, .sl d, .int .i64 e]), .fz (.ag [.int .i64 f, .sl g, .sl h, .int .i64 i])]) fun r2 => when (List.isEmpty r2.2 && allF [.fz] r2.1) (when (fits 1 false (toF (List.getD r2.1 0 em))) (when (isSl (toF (List.getD r2.1 0 em))) (onL (L_ltype_Join_1_0 R k w k a (toF (List.getD r2.1 0 em)) (List.length (toSl (toF (List.getD r2.1 0 em))) : Int) 0 b c d e f g h i 0 0 (toInt (toF (List.getD r0.1 0 em))) (toF (List.getD r2.1 0 em)) (toInt (toF (List.getD r1.1 0 em)))) (K_ltype_Join_1 R k w)))))))) := by kernel_rfl
theorem L_ltype_Join_1_0_eq (R : Orc) (k : Nat) (w : Bool) (n : Nat) (a b : FV) (c d e : Int) (f g : List FV) (h i : Int) (j l : List FV) (m o p q : Int) (s : FV) (t : Int) : L_ltype_Join_1_0 R k w (n + 1) a b c d e f g h i j l m o p q s t = ifB (decide (d < c))
 (when (isSl b) (when ((decide (0 ≤ d)) && (decide (d < (List.length (toSl b) : Int)))) (when (fits 1 false (List.getD (toSl b) (Int.toNat d) nilp)) (when (isStr (List.getD (toSl b) (Int.toNat d) nilp)) (onR (R N_ltype_Of [.fz (.ag [.int .i64 e, .sl f, .sl g, .int .i64 h]), .fz (.str (toStr (List.getD (toSl b) (Int.toNat d) nilp)))]) fun r3 => when (List.isEmpty r3.2 && allF [.fz] r3.1) (onR (R N_ltype_Of [.fz (.ag [.int .i64 i, .sl j, .sl l, .int .i64 m]), .fz (.str (toStr (List.getD (toSl b) (Int.toNat d) nilp)))]) fun r4 => when (List.isEmpty r4.2 && allF [.fz] r4.1) (onR (R N_ltype_Join [.fz (.pt 195 true a 0), .fz (toF (List.getD r3.1 0 em)), .fz (toF (List.getD r4.1 0 em))]) fun r5 => when (List.isEmpty r5.2 && allF [.fz] r5.1) (when (((fits 4 true (toF (List.getD r5.1 0 em))) && true) && true) (when (decide (((0 : Nat) + List.length [(toF (List.getD r5.1 0 em))]) * 64 ≤ roomy) && decide ((0 : Nat) + List.length [(toF (List.getD r5.1 0 em))] ≤ roomy)) (L_ltype_Join_1_1 R k w n a b c (IntKind.wrap .i64 (d + 1)) e f g h i j l m o p q s t [(toF (List.getD r5.1 0 em))]))))))))))
 (some ((.exit 0), X_ltype_Join_1_0 o p q s t)) := by kernel_rfl
theorem L_ltype_Join_1_1_eq (R : Orc) (k : Nat) (w : Bool) (n : Nat) (a b : FV) (c d e : Int) (f g : List FV) (h i : Int) (j l : List FV) (m o p q : Int) (s : FV) (t : Int) (u : List FV) : L_ltype_Join_1_1 R k w (n + 1) a b c d e f g h i j l m o p q s t u = ifB (decide (d < c))
 (when (isSl b) (when ((decide (0 ≤ d)) && (decide (d < (List.length (toSl b) : Int)))) (when (fits 1 false (List.getD (toSl b) (Int.toNat d) nilp)) (when (isStr (List.getD (toSl b) (Int.toNat d) nilp)) (onR (R N_ltype_Of [.fz (.ag [.int .i64 e, .sl f, .sl g, .int .i64 h]), .fz (.str (toStr (List.getD (toSl b) (Int.toNat d) nilp)))]) fun r6 => when (List.isEmpty r6.2 && allF [.fz] r6.1) (onR (R N_ltype_Of [.fz (.ag [.int .i64 i, .sl j, .sl l, .int .i64 m]), .fz (.str (toStr (List.getD (toSl b) (Int.toNat d) nilp)))]) fun r7 => when (List.isEmpty r7.2 && allF [.fz] r7.1) (onR (R N_ltype_Join [.fz (.pt 195 true a 0), .fz (toF (List.getD r6.1 0 em)), .fz (toF (List.getD r7.1 0 em))]) fun r8 => when (List.isEmpty r8.2 && allF [.fz] r8.1) (when (((fits 4 true (toF (List.getD r8.1 0 em))) && true) && true) (when (decide ((List.length u + List.length [(toF (List.getD r8.1 0 em))]) * 64 ≤ roomy) && decide (List.length u + List.length [(toF (List.getD r8.1 0 em))] ≤ roomy)) (L_ltype_Join_1_1 R k w n a b c (IntKind.wrap .i64 (d + 1)) e f g h i j l m o p q s t (u ++ [(toF (List.getD r8.1 0 em))])))))))))))
 (some ((.exit 0), X_ltype_Join_1_1 o p q s t u)) := by kernel_rfl
theorem X_ltype_Join_1_0_eq (R : Orc) (k : Nat) (w : Bool) (a b c : Int) (d : FV) (e : Int) : K_ltype_Join_1 R k w (.exit 0) (X_ltype_Join_1_0 a b c d e) = some ([.fz (.ag [.int .i64 c, d, .sl [], .int .i64 e])], []) := by kernel_rfl
theorem X_ltype_Join_1_1_eq (R : Orc) (k : Nat) (w : Bool) (a b c : Int) (d : FV) (e : Int) (f : List FV) : K_ltype_Join_1 R k w (.exit 0) (X_ltype_Join_1_1 a b c d e f) = some ([.fz (.ag [.int .i64 c, d, .sl f, .int .i64 e])], []) := by kernel_rfl
/-! keyhole/keyholeref25.Join -/
def C_ref25_Join : ACode := codeOf 27 Try.f27
def A_ref25_Join : AFunc := ⟨3, [(.cell 6 4 true, .fz)], C_ref25_Join, none⟩
/-! keyhole/ltype.All -/
def C_ltype_All : ACode := codeOf 28 Try.f28
def A_ltype_All : AFunc := ⟨2, [(.tmp 4, .fz)], C_ltype_All, none⟩
theorem E_ltype_All (R : Orc) (k : Nat) (w : Bool) (a : FV) (b : Int) (c d : List FV) (e : Int) : callL R k w A_ltype_All [.fz (.pt 195 true a 0), .fz (.ag [.int .i64 b, .sl c, .sl d, .int .i64 e])] = onR (R N_ltype_Below [.fz (.pt 195 true a 0), .fz (.ag [.int .i64 b, .sl c, .sl d, .int .i64 e])]) fun r0 => when (List.isEmpty r0.2 && allF [.fz] r0.1) (when (isInt .i64 (toF (List.getD r0.1 0 em))) (onR (R N_level_Lattice_Join [.fz (.pt 195 true a 0), .fz (.int .i64 b), .fz (.int .i64 (toInt (toF (List.getD r0.1 0 em))))]) fun r1 => when (List.isEmpty r1.2 && allF [.fz] r1.1) (when (isInt .i64 (toF (List.getD r1.1 0 em))) (some ([.fz (.int .i64 (toInt (toF (List.getD r1.1 0 em))))], []))))) := by kernel_rfl
/-! keyhole/keyholeref25.All -/
def C_ref25_All : ACode := codeOf 29 Try.f29
def A_ref25_All : AFunc := ⟨2, [(.tmp 4, .fz)], C_ref25_All, none⟩
/-! keyhole/ltype.Below -/
def C_ltype_Below : ACode := codeOf 30 Try.f30
def A_ltype_Below_b1 : ACode := C_ltype_Below.at [1, 1, 0, 1, 0, 0]
def A_ltype_Below_s1 : ACode := C_ltype_Below.at [1, 1, 1]
def A_ltype_Below : AFunc := ⟨2, [(.tmp 4, .fz)], C_ltype_Below, none⟩
def K_ltype_Below_1 (R : Orc) (k : Nat) (w : Bool) : AExit → St → Option Ans := (kBlk 0 (kSeq R k w [] A_ltype_Below_s1 (kFin R [(.tmp 4, .fz)] [])))
def L_ltype_Below_1_0 (R : Orc) (k : Nat) (w : Bool) (n : Nat) (a : FV) (b : Int) (c : List FV) (d e : Int) := loopL R k w [] [0, 5, 11, 12, 13] [5] A_ltype_Below_b1 n ⟨[(0, .fz (.pt 195 true a 0)), (5, .fz (.int .i64 b)), (11, .fz (.sl c)), (12, .fz (.int .i64 d)), (13, .fz (.int .i64 e))], [(4095, .dead)]⟩
def X_ltype_Below_1_0 (a : Int) : St := ⟨[(5, .fz (.int .i64 a))], [(4095, .dead)]⟩
theorem E_ltype_Below (R : Orc) (k : Nat) (w : Bool) (a : FV) (b : Int) (c d : List FV) (e : Int) : callL R k w A_ltype_Below [.fz (.pt 195 true a 0), .fz (.ag [.int .i64 b, .sl c, .sl d, .int .i64 e])] = onL (L_ltype_Below_1_0 R k w k a e d (List.length d : Int) 0) (K_ltype_Below_1 R k w) := by kernel_rfl
theorem L_ltype_Below_1_0_eq (R : Orc) (k : Nat) (w : Bool) (n : Nat) (a : FV) (b : Int) (c : List FV) (d e : Int) : L_ltype_Below_1_0 R k w (n + 1) a b c d e = ifB (decide (e < d))
 (when ((decide (0 ≤ e)) && (decide (e < (List.length c : Int)))) (when (fits 4 true (List.getD c (Int.toNat e) nilp)) (when (fits 4 true (List.getD c (Int.toNat e) nilp)) (onR (R N_ltype_All [.fz (.pt 195 true a 0), .fz (List.getD c (Int.toNat e) nilp)]) fun r0 => when (List.isEmpty r0.2 && allF [.fz] r0.1) (when (isInt .i64 (toF (List.getD r0.1 0 em))) (onR (R N_level_Lattice_Join [.fz (.pt 195 true a 0), .fz (.int .i64 b), .fz (.int .i64 (toInt (toF (List.getD r0.1 0 em))))]) fun r1 => when (List.isEmpty r1.2 && allF [.fz] r1.1) (when (isInt .i64 (toF (List.getD r1.1 0 em))) (L_ltype_Below_1_0 R k w n a (toInt (toF (List.getD r1.1 0 em))) c d (IntKind.wrap .i64 (e + 1))))))))))
 (some ((.exit 0), X_ltype_Below_1_0 b)) := by kernel_rfl
theorem X_ltype_Below_1_0_eq (R : Orc) (k : Nat) (w : Bool) (a : Int) : K_ltype_Below_1 R k w (.exit 0) (X_ltype_Below_1_0 a) = some ([.fz (.int .i64 a)], []) := by kernel_rfl
/-! keyhole/keyholeref25.Below -/
def C_ref25_Below : ACode := codeOf 31 Try.f31
def A_ref25_Below : AFunc := ⟨2, [(.tmp 4, .fz)], C_ref25_Below, none⟩
/-! keyhole/ltype.Raise -/
def C_ltype_Raise : ACode := codeOf 32 Try.f32
def A_ltype_Raise : AFunc := ⟨3, [(.cell 6 4 true, .fz)], C_ltype_Raise, none⟩
/-! keyhole/keyholeref09.Join -/
def C_ref09_Join : ACode := codeOf 33 Try.f33
def A_ref09_Join : AFunc := ⟨3, [(.tmp 6, .fz)], C_ref09_Join, none⟩
theorem E_ref09_Join (R : Orc) (k : Nat) (w : Bool) (a : List FV) (b c : Int) : callL R k w A_ref09_Join [.fz (.sl a), .fz (.int .i64 b), .fz (.int .i64 c)] = onR (R N_ref01_Join [.fz (.sl a), .fz (.int .i64 b), .fz (.int .i64 c)]) fun r0 => when (List.isEmpty r0.2 && allF [.fz] r0.1) (when (isSl (toF (List.getD r0.1 0 em))) (when (decide (0 < (List.length (toSl (toF (List.getD r0.1 0 em))) : Int))) (when (fits 1 false (List.getD (toSl (toF (List.getD r0.1 0 em))) 0 nilp)) (when (isInt .i64 (List.getD (toSl (toF (List.getD r0.1 0 em))) 0 nilp)) (some ([.fz (.int .i64 (toInt (List.getD (toSl (toF (List.getD r0.1 0 em))) 0 nilp)))], [])))))) := by kernel_rfl
/-! keyhole/ltype.Of -/
def C_ltype_Of : ACode := codeOf 34 Try.f34
def A_ltype_Of_j1 : ACode := C_ltype_Of.at [1, 1, 0, 1, 0]
def A_ltype_Of_j2 : ACode := C_ltype_Of.at [1, 1, 1, 0]
def A_ltype_Of_s3 : ACode := C_ltype_Of.at [1, 1, 1]
def A_ltype_Of : AFunc := ⟨2, [(.cell 4 4 true, .fz)], C_ltype_Of, none⟩
def J_ltype_Of_1_0 (R : Orc) (k : Nat) (w : Bool) (a : Int) (b : Bool) (c : Int) (d e : List FV) (f g h : Int) := execL R k w [] A_ltype_Of_j1 Ans ⟨[(2, .ptr 4096 0 0), (4, .ptr 4097 0 0), (5, .fz (.int .i64 a)), (22, .fz (.bool b))], [(4095, .dead), (4096, .var 4 true (.fz (.ag [.int .i64 c, .sl d, .sl e, .int .i64 f]))), (4097, .var 4 true (.ag [.fz (.int .i64 g), .nils, .nils, .fz (.int .i64 h)]))]⟩ (kSeq R k w [] A_ltype_Of_s3 (kFin R [(.cell 4 4 true, .fz)] []))
def J_ltype_Of_2_0 (R : Orc) (k : Nat) (w : Bool) (a b : Int) (c d : List FV) (e f g : Int) := execL R k w [] A_ltype_Of_j2 Ans ⟨[(2, .ptr 4096 0 0), (4, .ptr 4097 0 0), (5, .fz (.int .i64 a))], [(4095, .dead), (4096, .var 4 true (.fz (.ag [.int .i64 b, .sl c, .sl d, .int .i64 e]))), (4097, .var 4 true (.ag [.fz (.int .i64 f), .nils, .nils, .fz (.int .i64 g)]))]⟩ (kFin R [(.cell 4 4 true, .fz)] [])
theorem E_ltype_Of (R : Orc) (k : Nat) (w : Bool) (a : Int) (b c : List FV) (d : Int) (e : ByteArray) : callL R k w A_ltype_Of [.fz (.ag [.int .i64 a, .sl b, .sl c, .int .i64 d]), .fz (.str e)] = onR (R N_slices_BinarySearch___string_string_ [.fz (.sl b), .fz (.str e)]) fun r0 => when (List.isEmpty r0.2 && allF [.fz, .fz] r0.1) (when (isInt .i64 (toF (List.getD r0.1 0 em))) (when (isBool (toF (List.getD r0.1 1 em))) (ifB (!(toBool (toF (List.getD r0.1 1 em))))
 (jump w (J_ltype_Of_1_0 R k w (toInt (toF (List.getD r0.1 0 em))) true a b c d 0 0))
 (jump w (J_ltype_Of_1_0 R k w (toInt (toF (List.getD r0.1 0 em))) (decide ((toInt (toF (List.getD r0.1 0 em))) ≥ (List.length c : Int))) a b c d 0 0))))) := by kernel_rfl
theorem J_ltype_Of_1_0_eq (R : Orc) (k : Nat) (w : Bool) (a : Int) (b : Bool) (c : Int) (d e : List FV) (f g h : Int) : J_ltype_Of_1_0 R k w a b c d e f g h = ifB b
 (onR (R N_ltype_Plain [.fz (.int .i64 f)]) fun r1 => when (List.isEmpty r1.2 && allF [.fz] r1.1) (when (fits 4 true (toF (List.getD r1.1 0 em))) (some ([.fz (toF (List.getD r1.1 0 em))], []))))
 (jump w (J_ltype_Of_2_0 R k w a c d e f g h)) := by kernel_rfl
theorem J_ltype_Of_2_0_eq (R : Orc) (k : Nat) (w : Bool) (a b : Int) (c d : List FV) (e f g : Int) : J_ltype_Of_2_0 R k w a b c d e f g = when ((decide (0 ≤ a)) && (decide (a < (List.length d : Int)))) (when (fits 4 true (List.getD d (Int.toNat a) nilp)) (when (fits 4 true (List.getD d (Int.toNat a) nilp)) (some ([.fz (List.getD d (Int.toNat a) nilp)], [])))) := by kernel_rfl
/-! keyhole/keyholeref25.Of -/
def C_ref25_Of : ACode := codeOf 35 Try.f35
def A_ref25_Of : AFunc := ⟨2, [(.cell 4 4 true, .fz)], C_ref25_Of, none⟩
/-! keyhole/ltype.Items -/
def C_ltype_Items : ACode := codeOf 36 Try.f36
def A_ltype_Items : AFunc := ⟨2, [(.cell 4 4 true, .fz)], C_ltype_Items, none⟩
/-! keyhole/keyholeref25.Items -/
def C_ref25_Items : ACode := codeOf 37 Try.f37
def A_ref25_Items : AFunc := ⟨2, [(.cell 4 4 true, .fz)], C_ref25_Items, none⟩
/-! keyhole/ltype.Cut -/
def C_ltype_Cut : ACode := codeOf 38 Try.f38
def A_ltype_Cut_b1 : ACode := C_ltype_Cut.at [1, 1, 1, 0, 1, 0, 0]
def A_ltype_Cut_s1 : ACode := C_ltype_Cut.at [1, 1, 1, 1]
def A_ltype_Cut : AFunc := ⟨3, [(.cell 6 4 true, .fz)], C_ltype_Cut, none⟩
def K_ltype_Cut_1 (R : Orc) (k : Nat) (w : Bool) : AExit → St → Option Ans := (kBlk 0 (kSeq R k w [] A_ltype_Cut_s1 (kFin R [(.cell 6 4 true, .fz)] [])))
def L_ltype_Cut_1_0 (R : Orc) (k : Nat) (w : Bool) (n : Nat) (a : FV) (b : Int) (c : List FV) (d e f g h : Int) (i : FV) (j : Int) := loopL R k w [] [0, 2, 6, 7, 27, 28, 29] [6, 7] A_ltype_Cut_b1 n ⟨[(0, .fz (.pt 195 true a 0)), (2, .fz (.int .i64 b)), (6, .ptr 4096 0 0), (7, .ptr 4097 0 0), (27, .fz (.sl c)), (28, .fz (.int .i64 d)), (29, .fz (.int .i64 e))], [(4095, .dead), (4096, .var 4 true (.ag [.fz (.int .i64 f), .nils, .nils, .fz (.int .i64 g)])), (4097, .var 4 true (.ag [.fz (.int .i64 h), .fz i, .nils, .fz (.int .i64 j)]))]⟩
def L_ltype_Cut_1_1 (R : Orc) (k : Nat) (w : Bool) (n : Nat) (a : FV) (b : Int) (c : List FV) (d e f g h : Int) (i : FV) (j : Int) (l : List FV) := loopL R k w [] [0, 2, 6, 7, 27, 28, 29] [6, 7] A_ltype_Cut_b1 n ⟨[(0, .fz (.pt 195 true a 0)), (2, .fz (.int .i64 b)), (6, .ptr 4096 0 0), (7, .ptr 4097 0 0), (27, .fz (.sl c)), (28, .fz (.int .i64 d)), (29, .fz (.int .i64 e))], [(4095, .dead), (4096, .var 4 true (.ag [.fz (.int .i64 f), .nils, .nils, .fz (.int .i64 g)])), (4097, .var 4 true (.ag [.fz (.int .i64 h), .fz i, .rw 4098, .fz (.int .i64 j)])), (4098, .row 4 true l)]⟩
def X_ltype_Cut_1_0 (a b c : Int) (d : FV) (e : Int) : St := ⟨[(6, .ptr 4096 0 0), (7, .ptr 4097 0 0)], [(4095, .dead), (4096, .var 4 true (.ag [.fz (.int .i64 a), .nils, .nils, .fz (.int .i64 b)])), (4097, .var 4 true (.ag [.fz (.int .i64 c), .fz d, .nils, .fz (.int .i64 e)]))]⟩
def X_ltype_Cut_1_1 (a b c : Int) (d : FV) (e : Int) (f : List FV) : St := ⟨[(6, .ptr 4096 0 0), (7, .ptr 4097 0 0)], [(4095, .dead), (4096, .var 4 true (.ag [.fz (.int .i64 a), .nils, .nils, .fz (.int .i64 b)])), (4097, .var 4 true (.ag [.fz (.int .i64 c), .fz d, .rw 4098, .fz (.int .i64 e)])), (4098, .row 4 true f)]⟩
theorem E_ltype_Cut (R : Orc) (k : Nat) (w : Bool) (a : FV) (b : Int) (c d : List FV) (e f : Int) : callL R k w A_ltype_Cut [.fz (.pt 195 true a 0), .fz (.ag [.int .i64 b, .sl c, .sl d, .int .i64 e]), .fz (.int .i64 f)] = ifB (decide (f ≤ 0))
 (onR (R N_ltype_Below [.fz (.pt 195 true a 0), .fz (.ag [.int .i64 b, .sl c, .sl d, .int .i64 e])]) fun r0 => when (List.isEmpty r0.2 && allF [.fz] r0.1) (when (isInt .i64 (toF (List.getD r0.1 0 em))) (some ([.fz (.ag [.int .i64 b, .sl [], .sl [], (.int .i64 (toInt (toF (List.getD r0.1 0 em))))])], []))))
 (onR (R N_slices_Clone___string_string_ [.fz (.sl c)]) fun r1 => when (List.isEmpty r1.2 && allF [.fz] r1.1) (when (fits 1 false (toF (List.getD r1.1 0 em))) (onL (L_ltype_Cut_1_0 R k w k a f d (List.length d : Int) 0 0 0 b (toF (List.getD r1.1 0 em)) e) (K_ltype_Cut_1 R k w)))) := by kernel_rfl
theorem L_ltype_Cut_1_0_eq (R : Orc) (k : Nat) (w : Bool) (n : Nat) (a : FV) (b : Int) (c : List FV) (d e f g h : Int) (i : FV) (j : Int) : L_ltype_Cut_1_0 R k w (n + 1) a b c d e f g h i j = ifB (decide (e < d))
 (when ((decide (0 ≤ e)) && (decide (e < (List.length c : Int)))) (when (fits 4 true (List.getD c (Int.toNat e) nilp)) (when (fits 4 true (List.getD c (Int.toNat e) nilp)) (onR (R N_ltype_Cut [.fz (.pt 195 true a 0), .fz (List.getD c (Int.toNat e) nilp), .fz (.int .i64 (IntKind.wrap .i64 (b - 1)))]) fun r2 => when (List.isEmpty r2.2 && allF [.fz] r2.1) (when (((fits 4 true (toF (List.getD r2.1 0 em))) && true) && true) (when (decide (((0 : Nat) + List.length [(toF (List.getD r2.1 0 em))]) * 64 ≤ roomy) && decide ((0 : Nat) + List.length [(toF (List.getD r2.1 0 em))] ≤ roomy)) (L_ltype_Cut_1_1 R k w n a b c d (IntKind.wrap .i64 (e + 1)) f g h i j [(toF (List.getD r2.1 0 em))])))))))
 (some ((.exit 0), X_ltype_Cut_1_0 f g h i j)) := by kernel_rfl
theorem L_ltype_Cut_1_1_eq (R : Orc) (k : Nat) (w : Bool) (n : Nat) (a : FV) (b : Int) (c : List FV) (d e f g h : Int) (i : FV) (j : Int) (l : List FV) : L_ltype_Cut_1_1 R k w (n + 1) a b c d e f g h i j l = ifB (decide (e < d))
 (when ((decide (0 ≤ e)) && (decide (e < (List.length c : Int)))) (when (fits 4 true (List.getD c (Int.toNat e) nilp)) (when (fits 4 true (List.getD c (Int.toNat e) nilp)) (onR (R N_ltype_Cut [.fz (.pt 195 true a 0), .fz (List.getD c (Int.toNat e) nilp), .fz (.int .i64 (IntKind.wrap .i64 (b - 1)))]) fun r3 => when (List.isEmpty r3.2 && allF [.fz] r3.1) (when (((fits 4 true (toF (List.getD r3.1 0 em))) && true) && true) (when (decide ((List.length l + List.length [(toF (List.getD r3.1 0 em))]) * 64 ≤ roomy) && decide (List.length l + List.length [(toF (List.getD r3.1 0 em))] ≤ roomy)) (L_ltype_Cut_1_1 R k w n a b c d (IntKind.wrap .i64 (e + 1)) f g h i j (l ++ [(toF (List.getD r3.1 0 em))]))))))))
 (some ((.exit 0), X_ltype_Cut_1_1 f g h i j l)) := by kernel_rfl
theorem X_ltype_Cut_1_0_eq (R : Orc) (k : Nat) (w : Bool) (a b c : Int) (d : FV) (e : Int) : K_ltype_Cut_1 R k w (.exit 0) (X_ltype_Cut_1_0 a b c d e) = some ([.fz (.ag [.int .i64 c, d, .sl [], .int .i64 e])], []) := by kernel_rfl
theorem X_ltype_Cut_1_1_eq (R : Orc) (k : Nat) (w : Bool) (a b c : Int) (d : FV) (e : Int) (f : List FV) : K_ltype_Cut_1 R k w (.exit 0) (X_ltype_Cut_1_1 a b c d e f) = some ([.fz (.ag [.int .i64 c, d, .sl f, .int .i64 e])], []) := by kernel_rfl
/-! (*keyhole/level.Lattice).Leq -/
def C_level_Lattice_Leq : ACode := codeOf 39 Try.f39
def A_level_Lattice_Leq : AFunc := ⟨3, [(.tmp 6, .fz)], C_level_Lattice_Leq, none⟩
theorem E_level_Lattice_Leq (R : Orc) (k : Nat) (w : Bool) (a : FV) (b c : Int) : callL R k w A_level_Lattice_Leq [.fz (.pt 195 true a 0), .fz (.int .i64 b), .fz (.int .i64 c)] = onR (R N_level_Lattice_Is [.fz (.pt 195 true a 0), .fz (.int .i64 b)]) fun r0 => when (List.isEmpty r0.2 && allF [.fz] r0.1) (when (isBool (toF (List.getD r0.1 0 em))) (ifB (toBool (toF (List.getD r0.1 0 em)))
 (onR (R N_level_Lattice_Is [.fz (.pt 195 true a 0), .fz (.int .i64 c)]) fun r1 => when (List.isEmpty r1.2 && allF [.fz] r1.1) (when (isBool (toF (List.getD r1.1 0 em))) (ifB (toBool (toF (List.getD r1.1 0 em)))
 (when (decide (0 ≤ b) && decide (b < 8)) (when (decide (0 ≤ c) && decide (c < 8)) (when (isAg 195 a) (when (Nat.blt ((1 + ((Int.toNat b) * 8)) + ((Int.toNat c) * 1)) 195) (when (isBool (cell a ((1 + ((Int.toNat b) * 8)) + ((Int.toNat c) * 1)))) (some ([.fz (.bool (toBool (cell a ((1 + ((Int.toNat b) * 8)) + ((Int.toNat c) * 1)))))], [])))))))
 (some ([.fz (.bool false)], [])))))
 (some ([.fz (.bool false)], [])))) := by kernel_rfl
end
end Go.Ab
