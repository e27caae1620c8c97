-- Written by a program of the session, out of the translation. Lean checks it.
import Derived.Test.YtdpfpdejipkffaaA0
namespace Go.Ab
open Go.Proofs FV TV
set_option linter.unusedVariables false
set_option maxRecDepth 100000
noncomputable section
/-! keyhole/keyholelaw25.LtypeIs -/
def C_law25_LtypeIs : ACode := codeOf 3 Try.f3
def A_law25_LtypeIs : AFunc := ⟨3, [(.tmp 6, .fz)], C_law25_LtypeIs, none⟩
theorem E_law25_LtypeIs (R : Orc) (k : Nat) (w : Bool) (a b : Int) (c d : List FV) (e f : Int) : callL R k w A_law25_LtypeIs [.fz (.int .i64 a), .fz (.ag [.int .i64 b, .sl c, .sl d, .int .i64 e]), .fz (.int .i64 f)] = onR (R N_ref25_Light [.fz (.ag [.int .i64 b, .sl c, .sl d, .int .i64 e]), .fz (.int .i64 300)]) fun r0 => when (List.isEmpty r0.2 && allF [.fz] r0.1) (when (isBool (toF (List.getD r0.1 0 em))) (ifB (!(toBool (toF (List.getD r0.1 0 em))))
 (onR (R N_law25_lives []) fun r1 => when (List.isEmpty r1.2 && allF [.fz] r1.1) (when (isBool (toF (List.getD r1.1 0 em))) (some ([.fz (.bool (toBool (toF (List.getD r1.1 0 em))))], []))))
 (onR (R N_law25_of [.fz (.int .i64 a)]) fun r2 => when (List.isEmpty r2.2 && allF [.fz, .fz] r2.1) (onR (R N_ltype_Plain [.fz (.int .i64 f)]) fun r3 => when (List.isEmpty r3.2 && allF [.fz] r3.1) (when (fits 4 true (toF (List.getD r3.1 0 em))) (onR (R N_ltype_Is [.fz (toF (List.getD r2.1 0 em)), .fz (.ag [.int .i64 b, .sl c, .sl d, .int .i64 e])]) fun r4 => when (List.isEmpty r4.2 && allF [.fz] r4.1) (when (isBool (toF (List.getD r4.1 0 em))) (onR (R N_ref25_Is [.fz (toF (List.getD r2.1 1 em)), .fz (.ag [.int .i64 b, .sl c, .sl d, .int .i64 e]), .fz (.int .i64 0)]) fun r5 => when (List.isEmpty r5.2 && allF [.fz] r5.1) (when (isBool (toF (List.getD r5.1 0 em))) (ifB ((toBool (toF (List.getD r4.1 0 em))) == (toBool (toF (List.getD r5.1 0 em))))
 (when (isAg 4 (toF (List.getD r3.1 0 em))) (when (isInt .i64 (cell (toF (List.getD r3.1 0 em)) 0)) (ifB ((toInt (cell (toF (List.getD r3.1 0 em)) 0)) == f)
 (when (isAg 4 (toF (List.getD r3.1 0 em))) (when (isInt .i64 (cell (toF (List.getD r3.1 0 em)) 3)) (ifB ((toInt (cell (toF (List.getD r3.1 0 em)) 3)) == f)
 (when (isAg 4 (toF (List.getD r3.1 0 em))) (when (isSl (cell (toF (List.getD r3.1 0 em)) 1)) (ifB ((List.length (toSl (cell (toF (List.getD r3.1 0 em)) 1)) : Int) == 0)
 (onR (R N_ltype_Is [.fz (toF (List.getD r2.1 0 em)), .fz (toF (List.getD r3.1 0 em))]) fun r6 => when (List.isEmpty r6.2 && allF [.fz] r6.1) (when (isBool (toF (List.getD r6.1 0 em))) (ifB (decide (f ≥ 0))
 (when (isSl (toF (List.getD r2.1 1 em))) (ifB ((toBool (toF (List.getD r6.1 0 em))) == (decide (f < (List.length (toSl (toF (List.getD r2.1 1 em))) : Int))))
 (onR (R N_law25_lives []) fun r7 => when (List.isEmpty r7.2 && allF [.fz] r7.1) (when (isBool (toF (List.getD r7.1 0 em))) (some ([.fz (.bool (toBool (toF (List.getD r7.1 0 em))))], []))))
 (some ([.fz (.bool false)], []))))
 (ifB ((toBool (toF (List.getD r6.1 0 em))) == false)
 (onR (R N_law25_lives []) fun r8 => when (List.isEmpty r8.2 && allF [.fz] r8.1) (when (isBool (toF (List.getD r8.1 0 em))) (some ([.fz (.bool (toBool (toF (List.getD r8.1 0 em))))], []))))
 (some ([.fz (.bool false)], []))))))
 (some ([.fz (.bool false)], [])))))
 (some ([.fz (.bool false)], [])))))
 (some ([.fz (.bool false)], [])))))
 (some ([.fz (.bool false)], [])))))))))))) := by kernel_rfl
/-! keyhole/keyholelaw25.LtypeFits -/
def C_law25_LtypeFits : ACode := codeOf 4 Try.f4
def A_law25_LtypeFits_j1 : ACode := C_law25_LtypeFits.at [1, 1, 1, 0]
def A_law25_LtypeFits : AFunc := ⟨3, [(.tmp 6, .fz)], C_law25_LtypeFits, none⟩
def J_law25_LtypeFits_1_0 (R : Orc) (k : Nat) (w : Bool) (a b : FV) (c : Int) (d e : List FV) (f g h i j l : Int) (m : ByteArray) (o p : List FV) := execL R k w [] A_law25_LtypeFits_j1 Ans ⟨[(4, .ptr 4096 0 0), (5, .ptr 4097 0 0), (7, .fz a), (8, .fz b)], [(4095, .dead), (4096, .var 4 true (.fz (.ag [.int .i64 c, .sl d, .sl e, .int .i64 f]))), (4097, .var 8 true (.fz (.ag [.int .i64 g, .int .i64 h, .int .i64 i, .int .i64 j, .int .i64 l, .str m, .sl o, .sl p])))]⟩ (kFin R [(.tmp 6, .fz)] [])
theorem E_law25_LtypeFits (R : Orc) (k : Nat) (w : Bool) (a b : Int) (c d : List FV) (e f g h i j : Int) (l : ByteArray) (m o : List FV) : callL R k w A_law25_LtypeFits [.fz (.int .i64 a), .fz (.ag [.int .i64 b, .sl c, .sl d, .int .i64 e]), .fz (.ag [.int .i64 f, .int .i64 g, .int .i64 h, .int .i64 i, .int .i64 j, .str l, .sl m, .sl o])] = onR (R N_law25_of [.fz (.int .i64 a)]) fun r0 => when (List.isEmpty r0.2 && allF [.fz, .fz] r0.1) (onR (R N_law25_may [.fz (toF (List.getD r0.1 1 em)), .fz (.sl [(.ag [.int .i64 b, .sl c, .sl d, .int .i64 e])])]) fun r1 => when (List.isEmpty r1.2 && allF [.fz] r1.1) (when (isBool (toF (List.getD r1.1 0 em))) (ifB (!(toBool (toF (List.getD r1.1 0 em))))
 (onR (R N_law25_lives []) fun r2 => when (List.isEmpty r2.2 && allF [.fz] r2.1) (when (isBool (toF (List.getD r2.1 0 em))) (some ([.fz (.bool (toBool (toF (List.getD r2.1 0 em))))], []))))
 (onR (R N_ref09_Light [.fz (.ag [.int .i64 f, .int .i64 g, .int .i64 h, .int .i64 i, .int .i64 j, .str l, .sl m, .sl o]), .fz (.int .i64 200)]) fun r3 => when (List.isEmpty r3.2 && allF [.fz] r3.1) (when (isBool (toF (List.getD r3.1 0 em))) (ifB (!(toBool (toF (List.getD r3.1 0 em))))
 (onR (R N_law25_lives []) fun r4 => when (List.isEmpty r4.2 && allF [.fz] r4.1) (when (isBool (toF (List.getD r4.1 0 em))) (some ([.fz (.bool (toBool (toF (List.getD r4.1 0 em))))], []))))
 (onR (R N_ref09_Is [.fz (toF (List.getD r0.1 1 em)), .fz (.ag [.int .i64 f, .int .i64 g, .int .i64 h, .int .i64 i, .int .i64 j, .str l, .sl m, .sl o])]) fun r5 => when (List.isEmpty r5.2 && allF [.fz] r5.1) (when (isBool (toF (List.getD r5.1 0 em))) (ifB (!(toBool (toF (List.getD r5.1 0 em))))
 (onR (R N_law25_lives []) fun r6 => when (List.isEmpty r6.2 && allF [.fz] r6.1) (when (isBool (toF (List.getD r6.1 0 em))) (some ([.fz (.bool (toBool (toF (List.getD r6.1 0 em))))], []))))
 (jump w (J_law25_LtypeFits_1_0 R k w (toF (List.getD r0.1 0 em)) (toF (List.getD r0.1 1 em)) b c d e f g h i j l m o))))))))))) := by kernel_rfl
theorem J_law25_LtypeFits_1_0_eq (R : Orc) (k : Nat) (w : Bool) (a b : FV) (c : Int) (d e : List FV) (f g h i j l : Int) (m : ByteArray) (o p : List FV) : J_law25_LtypeFits_1_0 R k w a b c d e f g h i j l m o p = onR (R N_ref25_Whole [.fz b, .fz (.ag [.int .i64 g, .int .i64 h, .int .i64 i, .int .i64 j, .int .i64 l, .str m, .sl o, .sl p])]) fun r7 => when (List.isEmpty r7.2 && allF [.fz] r7.1) (onR (R N_ref25_Cut [.fz b, .fz (toF (List.getD r7.1 0 em)), .fz (.int .i64 3)]) fun r8 => when (List.isEmpty r8.2 && allF [.fz] r8.1) (when (fits 4 true (toF (List.getD r8.1 0 em))) (onR (R N_ltype_Node [.fz a, .fz (.ag [.int .i64 g, .int .i64 h, .int .i64 i, .int .i64 j, .int .i64 l, .str m, .sl o, .sl p])]) fun r9 => when (List.isEmpty r9.2 && allF [.fz] r9.1) (when (fits 4 true (toF (List.getD r9.1 0 em))) (onR (R N_ltype_Fits [.fz a, .fz (.ag [.int .i64 c, .sl d, .sl e, .int .i64 f]), .fz (.ag [.int .i64 g, .int .i64 h, .int .i64 i, .int .i64 j, .int .i64 l, .str m, .sl o, .sl p])]) fun r10 => when (List.isEmpty r10.2 && allF [.fz] r10.1) (when (isBool (toF (List.getD r10.1 0 em))) (onR (R N_ref25_Fits [.fz b, .fz (.ag [.int .i64 c, .sl d, .sl e, .int .i64 f]), .fz (.ag [.int .i64 g, .int .i64 h, .int .i64 i, .int .i64 j, .int .i64 l, .str m, .sl o, .sl p])]) fun r11 => when (List.isEmpty r11.2 && allF [.fz] r11.1) (when (isBool (toF (List.getD r11.1 0 em))) (ifB ((toBool (toF (List.getD r10.1 0 em))) == (toBool (toF (List.getD r11.1 0 em))))
 (onR (R N_ref25_Same [.fz (toF (List.getD r9.1 0 em)), .fz (toF (List.getD r8.1 0 em))]) fun r12 => when (List.isEmpty r12.2 && allF [.fz] r12.1) (when (isBool (toF (List.getD r12.1 0 em))) (ifB (toBool (toF (List.getD r12.1 0 em)))
 (onR (R N_ltype_Fits [.fz a, .fz (toF (List.getD r9.1 0 em)), .fz (.ag [.int .i64 g, .int .i64 h, .int .i64 i, .int .i64 j, .int .i64 l, .str m, .sl o, .sl p])]) fun r13 => when (List.isEmpty r13.2 && allF [.fz] r13.1) (when (isBool (toF (List.getD r13.1 0 em))) (ifB (toBool (toF (List.getD r13.1 0 em)))
 (onR (R N_ltype_Is [.fz a, .fz (toF (List.getD r9.1 0 em))]) fun r14 => when (List.isEmpty r14.2 && allF [.fz] r14.1) (when (isBool (toF (List.getD r14.1 0 em))) (ifB (toBool (toF (List.getD r14.1 0 em)))
 (onR (R N_law25_lives []) fun r15 => when (List.isEmpty r15.2 && allF [.fz] r15.1) (when (isBool (toF (List.getD r15.1 0 em))) (some ([.fz (.bool (toBool (toF (List.getD r15.1 0 em))))], []))))
 (some ([.fz (.bool false)], [])))))
 (some ([.fz (.bool false)], [])))))
 (some ([.fz (.bool false)], [])))))
 (some ([.fz (.bool false)], []))))))))))) := by kernel_rfl
/-! keyhole/keyholeref25.Light -/
def C_ref25_Light : ACode := codeOf 9 Try.f9
def A_ref25_Light : AFunc := ⟨2, [(.tmp 4, .fz)], C_ref25_Light, none⟩
theorem E_ref25_Light (R : Orc) (k : Nat) (w : Bool) (a : Int) (b c : List FV) (d e : Int) : callL R k w A_ref25_Light [.fz (.ag [.int .i64 a, .sl b, .sl c, .int .i64 d]), .fz (.int .i64 e)] = onR (R N_ref25_Size [.fz (.ag [.int .i64 a, .sl b, .sl c, .int .i64 d]), .fz (.int .i64 0), .fz (.int .i64 (IntKind.wrap .i64 (e + 1)))]) fun r0 => when (List.isEmpty r0.2 && allF [.fz] r0.1) (when (isInt .i64 (toF (List.getD r0.1 0 em))) (ifB (decide ((toInt (toF (List.getD r0.1 0 em))) ≤ e))
 (onR (R N_ref25_flat [.fz (.ag [.int .i64 a, .sl b, .sl c, .int .i64 d]), .fz (.int .i64 20)]) fun r1 => when (List.isEmpty r1.2 && allF [.fz] r1.1) (when (isBool (toF (List.getD r1.1 0 em))) (ifB (toBool (toF (List.getD r1.1 0 em)))
 (some ([.fz (.bool (decide ((List.length b : Int) ≤ 500)))], []))
 (some ([.fz (.bool false)], [])))))
 (some ([.fz (.bool false)], [])))) := by kernel_rfl
/-! keyhole/keyholelaw25.lives -/
def C_law25_lives : ACode := codeOf 10 Try.f10
def A_law25_lives : AFunc := ⟨0, [(.tmp 0, .fz)], C_law25_lives, none⟩
theorem E_law25_lives (R : Orc) (k : Nat) (w : Bool) : callL R k w A_law25_lives [] = onR (R N_ref01_Sort [.fz (.int .i64 0)]) fun r0 => when (List.isEmpty r0.2 && allF [.fz] r0.1) (onR (R N_level_New [.fz (toF (List.getD r0.1 0 em))]) fun r1 => when (List.isEmpty r1.2 && allF [.fz, .fz] r1.1) (when (isInt .i64 (toF (List.getD r1.1 1 em))) (onR (R N_ltype_Node [.fz (toF (List.getD r1.1 0 em)), .fz (.ag [.int .i64 0, .int .i64 1, .int .i64 6, .int .i64 0, .int .i64 0, (.str (⟨#[]⟩ : ByteArray)), (.sl [(.ag [.int .i64 1, .int .i64 1, .int .i64 3, .int .i64 0, .int .i64 0, (.str (⟨#[]⟩ : ByteArray)), .sl [], .sl []])]), (.sl [(.str (⟨#[97]⟩ : ByteArray))])])]) fun r2 => when (List.isEmpty r2.2 && allF [.fz] r2.1) (when (fits 4 true (toF (List.getD r2.1 0 em))) (when (isAg 4 (toF (List.getD r2.1 0 em))) (when (isInt .i64 (cell (toF (List.getD r2.1 0 em)) 0)) (ifB ((toInt (cell (toF (List.getD r2.1 0 em)) 0)) == 0)
 (when (isAg 4 (toF (List.getD r2.1 0 em))) (when (isInt .i64 (cell (toF (List.getD r2.1 0 em)) 3)) (ifB ((toInt (cell (toF (List.getD r2.1 0 em)) 3)) == 0)
 (when (isAg 4 (toF (List.getD r2.1 0 em))) (when (isSl (cell (toF (List.getD r2.1 0 em)) 1)) (ifB ((List.length (toSl (cell (toF (List.getD r2.1 0 em)) 1)) : Int) == 1)
 (when (isAg 4 (toF (List.getD r2.1 0 em))) (when (isSl (cell (toF (List.getD r2.1 0 em)) 2)) (ifB ((List.length (toSl (cell (toF (List.getD r2.1 0 em)) 2)) : Int) == 1)
 (when (isAg 4 (toF (List.getD r2.1 0 em))) (when (isSl (cell (toF (List.getD r2.1 0 em)) 1)) (when (decide (0 < (List.length (toSl (cell (toF (List.getD r2.1 0 em)) 1)) : Int))) (when (fits 1 false (List.getD (toSl (cell (toF (List.getD r2.1 0 em)) 1)) 0 nilp)) (when (isStr (List.getD (toSl (cell (toF (List.getD r2.1 0 em)) 1)) 0 nilp)) (ifB (ByteArray.toList (toStr (List.getD (toSl (cell (toF (List.getD r2.1 0 em)) 1)) 0 nilp)) == ByteArray.toList (⟨#[97]⟩ : ByteArray))
 (when (isAg 4 (toF (List.getD r2.1 0 em))) (when (isSl (cell (toF (List.getD r2.1 0 em)) 2)) (when (decide (0 < (List.length (toSl (cell (toF (List.getD r2.1 0 em)) 2)) : Int))) (when (fits 4 true (List.getD (toSl (cell (toF (List.getD r2.1 0 em)) 2)) 0 nilp)) (when (isAg 4 (List.getD (toSl (cell (toF (List.getD r2.1 0 em)) 2)) 0 nilp)) (when (isInt .i64 (cell (List.getD (toSl (cell (toF (List.getD r2.1 0 em)) 2)) 0 nilp) 0)) (some ([.fz (.bool ((toInt (cell (List.getD (toSl (cell (toF (List.getD r2.1 0 em)) 2)) 0 nilp) 0)) == 1))], []))))))))
 (some ([.fz (.bool false)], []))))))))
 (some ([.fz (.bool false)], [])))))
 (some ([.fz (.bool false)], [])))))
 (some ([.fz (.bool false)], [])))))
 (some ([.fz (.bool false)], []))))))))) := by kernel_rfl
/-! keyhole/keyholelaw25.of -/
def C_law25_of : ACode := codeOf 11 Try.f11
def A_law25_of : AFunc := ⟨1, [(.tmp 2, .fz), (.tmp 3, .fz)], C_law25_of, none⟩
theorem E_law25_of (R : Orc) (k : Nat) (w : Bool) (a : Int) : callL R k w A_law25_of [.fz (.int .i64 a)] = onR (R N_ref01_Sort [.fz (.int .i64 a)]) fun r0 => when (List.isEmpty r0.2 && allF [.fz] r0.1) (when (fits 3 true (toF (List.getD r0.1 0 em))) (onR (R N_level_New [.fz (toF (List.getD r0.1 0 em))]) fun r1 => when (List.isEmpty r1.2 && allF [.fz, .fz] r1.1) (when (isInt .i64 (toF (List.getD r1.1 1 em))) (onR (R N_ref01_Table [.fz (toF (List.getD r0.1 0 em))]) fun r2 => when (List.isEmpty r2.2 && allF [.fz] r2.1) (some ([.fz (toF (List.getD r1.1 0 em)), .fz (toF (List.getD r2.1 0 em))], [])))))) := by kernel_rfl
/-! keyhole/ltype.Plain -/
def C_ltype_Plain : ACode := codeOf 12 Try.f12
def A_ltype_Plain : AFunc := ⟨1, [(.cell 2 4 true, .fz)], C_ltype_Plain, none⟩
theorem E_ltype_Plain (R : Orc) (k : Nat) (w : Bool) (a : Int) : callL R k w A_ltype_Plain [.fz (.int .i64 a)] = some ([.fz (.ag [.int .i64 a, .sl [], .sl [], .int .i64 a])], []) := by kernel_rfl
/-! keyhole/ltype.Is -/
def C_ltype_Is : ACode := codeOf 13 Try.f13
def A_ltype_Is : AFunc := ⟨2, [(.tmp 4, .fz)], C_ltype_Is, none⟩
theorem E_ltype_Is (R : Orc) (k : Nat) (w : Bool) (a : FV) (b : Int) (c d : List FV) (e : Int) : callL R k w A_ltype_Is [.fz (.pt 195 true a 0), .fz (.ag [.int .i64 b, .sl c, .sl d, .int .i64 e])] = onR (R N_ltype_is [.fz (.pt 195 true a 0), .fz (.ag [.int .i64 b, .sl c, .sl d, .int .i64 e]), .fz (.int .i64 0)]) fun r0 => when (List.isEmpty r0.2 && allF [.fz] r0.1) (when (isBool (toF (List.getD r0.1 0 em))) (some ([.fz (.bool (toBool (toF (List.getD r0.1 0 em))))], []))) := by kernel_rfl
/-! keyhole/keyholeref25.Is -/
def C_ref25_Is : ACode := codeOf 14 Try.f14
def A_ref25_Is_j1 : ACode := C_ref25_Is.at [1, 1, 0, 0, 1, 0, 0, 1, 0, 0, 1, 0]
def A_ref25_Is_s2 : ACode := C_ref25_Is.at [1, 1, 0, 0, 1, 0, 0, 1, 1]
def A_ref25_Is_b1 : ACode := C_ref25_Is.at [1, 1, 0, 0, 1, 0, 0]
def A_ref25_Is_s3 : ACode := C_ref25_Is.at [1, 1, 0, 1]
def A_ref25_Is_j4 : ACode := C_ref25_Is.at [1, 1, 0]
def A_ref25_Is : AFunc := ⟨3, [(.tmp 6, .fz)], C_ref25_Is, none⟩
def J_ref25_Is_4_0 (R : Orc) (k : Nat) (w : Bool) (a : List FV) (b c : Int) (d e : List FV) (f : Int) := execL R k w [] A_ref25_Is_j4 Ans ⟨[(0, .fz (.sl a)), (2, .fz (.int .i64 b)), (4, .ptr 4096 0 0)], [(4095, .dead), (4096, .var 4 true (.fz (.ag [.int .i64 c, .sl d, .sl e, .int .i64 f])))]⟩ (kFin R [(.tmp 6, .fz)] [])
def K_ref25_Is_1 (R : Orc) (k : Nat) (w : Bool) : AExit → St → Option Ans := (kBlk 0 (kSeq R k w [] A_ref25_Is_s3 (kFin R [(.tmp 6, .fz)] [])))
def L_ref25_Is_1_0 (R : Orc) (k : Nat) (w : Bool) (n : Nat) (a : List FV) (b c d : Int) (e f : List FV) (g : Int) := loopL R k w [] [0, 2, 4, 7] [6] A_ref25_Is_b1 n ⟨[(0, .fz (.sl a)), (2, .fz (.int .i64 b)), (4, .ptr 4096 0 0), (7, .fz (.int .i64 c))], [(4095, .dead), (4096, .var 4 true (.fz (.ag [.int .i64 d, .sl e, .sl f, .int .i64 g])))]⟩
def X_ref25_Is_1_0 (a : Bool) : St := ⟨[(6, .fz (.bool a))], [(4095, .dead)]⟩
def J_ref25_Is_1_0 (R : Orc) (k : Nat) (w : Bool) (n : Nat) (a : List FV) (b c d : Int) (e f : List FV) (g : Int) := execL R k w [] A_ref25_Is_j1 (AExit × St) ⟨[(0, .fz (.sl a)), (2, .fz (.int .i64 b)), (4, .ptr 4096 0 0), (7, .fz (.int .i64 c))], [(4095, .dead), (4096, .var 4 true (.fz (.ag [.int .i64 d, .sl e, .sl f, .int .i64 g])))]⟩ (kBlk 1 (kSeq R k w [] A_ref25_Is_s2 (kLoop R k w [] [0, 2, 4, 7] [6] A_ref25_Is_b1 n)))
def X_ref25_Is_1_1 : St := ⟨[], [(4095, .dead)]⟩
theorem E_ref25_Is (R : Orc) (k : Nat) (w : Bool) (a : List FV) (b : Int) (c d : List FV) (e f : Int) : callL R k w A_ref25_Is [.fz (.sl a), .fz (.ag [.int .i64 b, .sl c, .sl d, .int .i64 e]), .fz (.int .i64 f)] = ifB (decide (f > 3))
 (some ([.fz (.bool false)], []))
 (ifB (decide (b < 0))
 (some ([.fz (.bool false)], []))
 (ifB (decide (b ≥ (List.length a : Int)))
 (some ([.fz (.bool false)], []))
 (ifB (decide (e < 0))
 (some ([.fz (.bool false)], []))
 (ifB (decide (e ≥ (List.length a : Int)))
 (some ([.fz (.bool false)], []))
 (ifB ((List.length c : Int) != (List.length d : Int))
 (some ([.fz (.bool false)], []))
 (jump w (J_ref25_Is_4_0 R k w a f b c d e))))))) := by kernel_rfl
theorem J_ref25_Is_4_0_eq (R : Orc) (k : Nat) (w : Bool) (a : List FV) (b c : Int) (d e : List FV) (f : Int) : J_ref25_Is_4_0 R k w a b c d e f = onL (L_ref25_Is_1_0 R k w k a b 0 c d e f) (K_ref25_Is_1 R k w) := by kernel_rfl
theorem L_ref25_Is_1_0_eq (R : Orc) (k : Nat) (w : Bool) (n : Nat) (a : List FV) (b c d : Int) (e f : List FV) (g : Int) : L_ref25_Is_1_0 R k w (n + 1) a b c d e f g = ifB (decide (c < (List.length e : Int)))
 (ifB (decide (c > 0))
 (when ((decide (0 ≤ c)) && (decide (c < (List.length e : Int)))) (when (fits 1 false (List.getD e (Int.toNat c) nilp)) (when (isStr (List.getD e (Int.toNat c) nilp)) (when ((decide (0 ≤ (IntKind.wrap .i64 (c - 1)))) && (decide ((IntKind.wrap .i64 (c - 1)) < (List.length e : Int)))) (when (fits 1 false (List.getD e (Int.toNat (IntKind.wrap .i64 (c - 1))) nilp)) (when (isStr (List.getD e (Int.toNat (IntKind.wrap .i64 (c - 1))) nilp)) (ifB (Op.bytesLess (ByteArray.toList (toStr (List.getD e (Int.toNat c) nilp))) (ByteArray.toList (toStr (List.getD e (Int.toNat (IntKind.wrap .i64 (c - 1))) nilp))) || ByteArray.toList (toStr (List.getD e (Int.toNat c) nilp)) == ByteArray.toList (toStr (List.getD e (Int.toNat (IntKind.wrap .i64 (c - 1))) nilp)))
 (some (.ret, X_ref25_Is_1_0 false))
 (jump w (J_ref25_Is_1_0 R k w n a b c d e f g)))))))))
 (jump w (J_ref25_Is_1_0 R k w n a b c d e f g)))
 (some ((.exit 0), X_ref25_Is_1_1)) := by kernel_rfl
theorem X_ref25_Is_1_0_eq (R : Orc) (k : Nat) (w a : Bool) : K_ref25_Is_1 R k w .ret (X_ref25_Is_1_0 a) = some ([.fz (.bool a)], []) := by kernel_rfl
theorem J_ref25_Is_1_0_eq (R : Orc) (k : Nat) (w : Bool) (n : Nat) (a : List FV) (b c d : Int) (e f : List FV) (g : Int) : J_ref25_Is_1_0 R k w n a b c d e f g = when ((decide (0 ≤ c)) && (decide (c < (List.length f : Int)))) (when (fits 4 true (List.getD f (Int.toNat c) nilp)) (onR (R N_ref25_Is [.fz (.sl a), .fz (List.getD f (Int.toNat c) nilp), .fz (.int .i64 (IntKind.wrap .i64 (b + 1)))]) fun r0 => when (List.isEmpty r0.2 && allF [.fz] r0.1) (when (isBool (toF (List.getD r0.1 0 em))) (ifB (!(toBool (toF (List.getD r0.1 0 em))))
 (some (.ret, X_ref25_Is_1_0 false))
 (L_ref25_Is_1_0 R k w n a b (IntKind.wrap .i64 (c + 1)) d e f g))))) := by kernel_rfl
theorem X_ref25_Is_1_1_eq (R : Orc) (k : Nat) (w : Bool) : K_ref25_Is_1 R k w (.exit 0) (X_ref25_Is_1_1) = some ([.fz (.bool true)], []) := by kernel_rfl
/-! keyhole/keyholelaw25.may -/
def C_law25_may : ACode := codeOf 15 Try.f15
def A_law25_may_j1 : ACode := C_law25_may.at [1, 0, 1, 0, 0, 1, 0]
def A_law25_may_b1 : ACode := C_law25_may.at [1, 0, 1, 0, 0]
def A_law25_may_s2 : ACode := C_law25_may.at [1, 1]
def A_law25_may : AFunc := ⟨2, [(.tmp 4, .fz)], C_law25_may, none⟩
def K_law25_may_1 (R : Orc) (k : Nat) (w : Bool) : AExit → St → Option Ans := (kBlk 0 (kSeq R k w [] A_law25_may_s2 (kFin R [(.tmp 4, .fz)] [])))
def L_law25_may_1_0 (R : Orc) (k : Nat) (w : Bool) (n : Nat) (a b : List FV) (c : Int) := loopL R k w [] [0, 1, 5] [1, 4] A_law25_may_b1 n ⟨[(0, .fz (.sl a)), (1, .fz (.sl b)), (5, .fz (.int .i64 c))], [(4095, .dead)]⟩
def J_law25_may_1_0 (R : Orc) (k : Nat) (w : Bool) (n : Nat) (a b : List FV) (c : Int) := execL R k w [] A_law25_may_j1 (AExit × St) ⟨[(0, .fz (.sl a)), (1, .fz (.sl b)), (5, .fz (.int .i64 c))], [(4095, .dead)]⟩ (kLoop R k w [] [0, 1, 5] [1, 4] A_law25_may_b1 n)
def X_law25_may_1_0 (a : List FV) : St := ⟨[(1, .fz (.sl a))], [(4095, .dead)]⟩
def X_law25_may_1_1 (a : List FV) (b : Bool) : St := ⟨[(1, .fz (.sl a)), (4, .fz (.bool b))], [(4095, .dead)]⟩
theorem E_law25_may (R : Orc) (k : Nat) (w : Bool) (a b : List FV) : callL R k w A_law25_may [.fz (.sl a), .fz (.sl b)] = onL (L_law25_may_1_0 R k w k a b 0) (K_law25_may_1 R k w) := by kernel_rfl
theorem L_law25_may_1_0_eq (R : Orc) (k : Nat) (w : Bool) (n : Nat) (a b : List FV) (c : Int) : L_law25_may_1_0 R k w (n + 1) a b c = ifB (decide (c < (List.length b : Int)))
 (ifB (decide (c < 5))
 (jump w (J_law25_may_1_0 R k w n a b c))
 (some ((.exit 0), X_law25_may_1_0 b)))
 (some ((.exit 0), X_law25_may_1_0 b)) := by kernel_rfl
theorem J_law25_may_1_0_eq (R : Orc) (k : Nat) (w : Bool) (n : Nat) (a b : List FV) (c : Int) : J_law25_may_1_0 R k w n a b c = when ((decide (0 ≤ c)) && (decide (c < (List.length b : Int)))) (when (fits 4 true (List.getD b (Int.toNat c) nilp)) (onR (R N_ref25_Light [.fz (List.getD b (Int.toNat c) nilp), .fz (.int .i64 200)]) fun r0 => when (List.isEmpty r0.2 && allF [.fz] r0.1) (when (isBool (toF (List.getD r0.1 0 em))) (ifB (!(toBool (toF (List.getD r0.1 0 em))))
 (some (.ret, X_law25_may_1_1 b false))
 (when ((decide (0 ≤ c)) && (decide (c < (List.length b : Int)))) (when (fits 4 true (List.getD b (Int.toNat c) nilp)) (onR (R N_ref25_Is [.fz (.sl a), .fz (List.getD b (Int.toNat c) nilp), .fz (.int .i64 0)]) fun r1 => when (List.isEmpty r1.2 && allF [.fz] r1.1) (when (isBool (toF (List.getD r1.1 0 em))) (ifB (!(toBool (toF (List.getD r1.1 0 em))))
 (some (.ret, X_law25_may_1_1 b false))
 (L_law25_may_1_0 R k w n a b (IntKind.wrap .i64 (c + 1)))))))))))) := by kernel_rfl
theorem X_law25_may_1_0_eq (R : Orc) (k : Nat) (w : Bool) (a : List FV) : K_law25_may_1 R k w (.exit 0) (X_law25_may_1_0 a) = some ([.fz (.bool (decide ((List.length a : Int) ≤ 4)))], []) := by kernel_rfl
theorem X_law25_may_1_1_eq (R : Orc) (k : Nat) (w : Bool) (a : List FV) (b : Bool) : K_law25_may_1 R k w .ret (X_law25_may_1_1 a b) = some ([.fz (.bool b)], []) := by kernel_rfl
/-! keyhole/keyholeref09.Light -/
def C_ref09_Light : ACode := codeOf 16 Try.f16
def A_ref09_Light : AFunc := ⟨2, [(.tmp 4, .fz)], C_ref09_Light, none⟩
theorem E_ref09_Light (R : Orc) (k : Nat) (w : Bool) (a b c d e : Int) (f : ByteArray) (g h : List FV) (i : Int) : callL R k w A_ref09_Light [.fz (.ag [.int .i64 a, .int .i64 b, .int .i64 c, .int .i64 d, .int .i64 e, .str f, .sl g, .sl h]), .fz (.int .i64 i)] = onR (R N_ref09_Size [.fz (.ag [.int .i64 a, .int .i64 b, .int .i64 c, .int .i64 d, .int .i64 e, .str f, .sl g, .sl h]), .fz (.int .i64 0), .fz (.int .i64 (IntKind.wrap .i64 (i + 1)))]) fun r0 => when (List.isEmpty r0.2 && allF [.fz] r0.1) (when (isInt .i64 (toF (List.getD r0.1 0 em))) (ifB (decide ((toInt (toF (List.getD r0.1 0 em))) ≤ i))
 (onR (R N_ref09_Flat [.fz (.ag [.int .i64 a, .int .i64 b, .int .i64 c, .int .i64 d, .int .i64 e, .str f, .sl g, .sl h]), .fz (.int .i64 60)]) fun r1 => when (List.isEmpty r1.2 && allF [.fz] r1.1) (when (isBool (toF (List.getD r1.1 0 em))) (some ([.fz (.bool (toBool (toF (List.getD r1.1 0 em))))], []))))
 (some ([.fz (.bool false)], [])))) := by kernel_rfl
/-! keyhole/keyholeref09.Is -/
def C_ref09_Is : ACode := codeOf 17 Try.f17
def A_ref09_Is : AFunc := ⟨2, [(.tmp 4, .fz)], C_ref09_Is, none⟩
theorem E_ref09_Is (R : Orc) (k : Nat) (w : Bool) (a : List FV) (b c d e f : Int) (g : ByteArray) (h i : List FV) : callL R k w A_ref09_Is [.fz (.sl a), .fz (.ag [.int .i64 b, .int .i64 c, .int .i64 d, .int .i64 e, .int .i64 f, .str g, .sl h, .sl i])] = onR (R N_ref09_Labels [.fz (.sl a), .fz (.ag [.int .i64 b, .int .i64 c, .int .i64 d, .int .i64 e, .int .i64 f, .str g, .sl h, .sl i])]) fun r0 => when (List.isEmpty r0.2 && allF [.fz] r0.1) (when (isBool (toF (List.getD r0.1 0 em))) (ifB (toBool (toF (List.getD r0.1 0 em)))
 (onR (R N_ref09_right [.fz (.sl a), .fz (.ag [.int .i64 b, .int .i64 c, .int .i64 d, .int .i64 e, .int .i64 f, .str g, .sl h, .sl i])]) fun r1 => when (List.isEmpty r1.2 && allF [.fz] r1.1) (when (isBool (toF (List.getD r1.1 0 em))) (ifB (toBool (toF (List.getD r1.1 0 em)))
 (onR (R N_ref09_Strip [.fz (.ag [.int .i64 b, .int .i64 c, .int .i64 d, .int .i64 e, .int .i64 f, .str g, .sl h, .sl i])]) fun r2 => when (List.isEmpty r2.2 && allF [.fz] r2.1) (onR (R N_ref09_shape [.fz (toF (List.getD r2.1 0 em))]) fun r3 => when (List.isEmpty r3.2 && allF [.fz] r3.1) (when (isBool (toF (List.getD r3.1 0 em))) (some ([.fz (.bool (toBool (toF (List.getD r3.1 0 em))))], [])))))
 (some ([.fz (.bool false)], [])))))
 (some ([.fz (.bool false)], [])))) := by kernel_rfl
/-! keyhole/keyholeref25.Cut -/
def C_ref25_Cut : ACode := codeOf 18 Try.f18
def A_ref25_Cut_b1 : ACode := C_ref25_Cut.at [1, 1, 1, 1, 0, 1, 0, 0]
def A_ref25_Cut_s1 : ACode := C_ref25_Cut.at [1, 1, 1, 1, 1]
def A_ref25_Cut : AFunc := ⟨3, [(.cell 6 4 true, .fz)], C_ref25_Cut, none⟩
def K_ref25_Cut_1 (R : Orc) (k : Nat) (w : Bool) : AExit → St → Option Ans := (kBlk 0 (kSeq R k w [] A_ref25_Cut_s1 (kFin R [(.cell 6 4 true, .fz)] [])))
def L_ref25_Cut_1_0 (R : Orc) (k : Nat) (w : Bool) (n : Nat) (a : List FV) (b c d : Int) (e f : List FV) (g h i j : Int) (l : List FV) (m : Int) := loopL R k w [] [0, 2, 4, 6, 7, 8] [6, 7] A_ref25_Cut_b1 n ⟨[(0, .fz (.sl a)), (2, .fz (.int .i64 b)), (4, .ptr 4096 0 0), (6, .ptr 4097 0 0), (7, .ptr 4098 0 0), (8, .fz (.int .i64 c))], [(4095, .dead), (4096, .var 4 true (.fz (.ag [.int .i64 d, .sl e, .sl f, .int .i64 g]))), (4097, .var 4 true (.ag [.fz (.int .i64 h), .nils, .nils, .fz (.int .i64 i)])), (4098, .var 4 true (.ag [.fz (.int .i64 j), .fz (.sl l), .nils, .fz (.int .i64 m)]))]⟩
def L_ref25_Cut_1_1 (R : Orc) (k : Nat) (w : Bool) (n : Nat) (a : List FV) (b c d : Int) (e f : List FV) (g h i j : Int) (l : List FV) (m : Int) (o : List FV) := loopL R k w [] [0, 2, 4, 6, 7, 8] [6, 7] A_ref25_Cut_b1 n ⟨[(0, .fz (.sl a)), (2, .fz (.int .i64 b)), (4, .ptr 4096 0 0), (6, .ptr 4097 0 0), (7, .ptr 4098 0 0), (8, .fz (.int .i64 c))], [(4095, .dead), (4096, .var 4 true (.fz (.ag [.int .i64 d, .sl e, .sl f, .int .i64 g]))), (4097, .var 4 true (.ag [.fz (.int .i64 h), .nils, .nils, .fz (.int .i64 i)])), (4098, .var 4 true (.ag [.fz (.int .i64 j), .fz (.sl l), .rw 4099, .fz (.int .i64 m)])), (4099, .row 4 true o)]⟩
def X_ref25_Cut_1_0 (a b c : Int) (d : List FV) (e : Int) : St := ⟨[(6, .ptr 4096 0 0), (7, .ptr 4097 0 0)], [(4095, .dead), (4096, .var 4 true (.ag [.fz (.int .i64 a), .nils, .nils, .fz (.int .i64 b)])), (4097, .var 4 true (.ag [.fz (.int .i64 c), .fz (.sl d), .nils, .fz (.int .i64 e)]))]⟩
def X_ref25_Cut_1_1 (a b c : Int) (d : List FV) (e : Int) (f : List FV) : St := ⟨[(6, .ptr 4096 0 0), (7, .ptr 4097 0 0)], [(4095, .dead), (4096, .var 4 true (.ag [.fz (.int .i64 a), .nils, .nils, .fz (.int .i64 b)])), (4097, .var 4 true (.ag [.fz (.int .i64 c), .fz (.sl d), .rw 4098, .fz (.int .i64 e)])), (4098, .row 4 true f)]⟩
theorem E_ref25_Cut (R : Orc) (k : Nat) (w : Bool) (a : List FV) (b : Int) (c d : List FV) (e f : Int) : callL R k w A_ref25_Cut [.fz (.sl a), .fz (.ag [.int .i64 b, .sl c, .sl d, .int .i64 e]), .fz (.int .i64 f)] = ifB (decide (f < 1))
 (onR (R N_ref25_Below [.fz (.sl a), .fz (.ag [.int .i64 b, .sl c, .sl d, .int .i64 e])]) fun r0 => when (List.isEmpty r0.2 && allF [.fz] r0.1) (when (isInt .i64 (toF (List.getD r0.1 0 em))) (some ([.fz (.ag [.int .i64 b, .sl [], .sl [], (.int .i64 (toInt (toF (List.getD r0.1 0 em))))])], []))))
 (onL (L_ref25_Cut_1_0 R k w k a f 0 b c d e 0 0 b c e) (K_ref25_Cut_1 R k w)) := by kernel_rfl
theorem L_ref25_Cut_1_0_eq (R : Orc) (k : Nat) (w : Bool) (n : Nat) (a : List FV) (b c d : Int) (e f : List FV) (g h i j : Int) (l : List FV) (m : Int) : L_ref25_Cut_1_0 R k w (n + 1) a b c d e f g h i j l m = ifB (decide (c < (List.length f : Int)))
 (when ((decide (0 ≤ c)) && (decide (c < (List.length f : Int)))) (when (fits 4 true (List.getD f (Int.toNat c) nilp)) (onR (R N_ref25_Cut [.fz (.sl a), .fz (List.getD f (Int.toNat c) nilp), .fz (.int .i64 (IntKind.wrap .i64 (b - 1)))]) fun r1 => when (List.isEmpty r1.2 && allF [.fz] r1.1) (when (((fits 4 true (toF (List.getD r1.1 0 em))) && true) && true) (when (decide (((0 : Nat) + List.length [(toF (List.getD r1.1 0 em))]) * 64 ≤ roomy) && decide ((0 : Nat) + List.length [(toF (List.getD r1.1 0 em))] ≤ roomy)) (L_ref25_Cut_1_1 R k w n a b (IntKind.wrap .i64 (c + 1)) d e f g h i j l m [(toF (List.getD r1.1 0 em))]))))))
 (some ((.exit 0), X_ref25_Cut_1_0 h i j l m)) := by kernel_rfl
theorem L_ref25_Cut_1_1_eq (R : Orc) (k : Nat) (w : Bool) (n : Nat) (a : List FV) (b c d : Int) (e f : List FV) (g h i j : Int) (l : List FV) (m : Int) (o : List FV) : L_ref25_Cut_1_1 R k w (n + 1) a b c d e f g h i j l m o = ifB (decide (c < (List.length f : Int)))
 (when ((decide (0 ≤ c)) && (decide (c < (List.length f : Int)))) (when (fits 4 true (List.getD f (Int.toNat c) nilp)) (onR (R N_ref25_Cut [.fz (.sl a), .fz (List.getD f (Int.toNat c) nilp), .fz (.int .i64 (IntKind.wrap .i64 (b - 1)))]) fun r2 => when (List.isEmpty r2.2 && allF [.fz] r2.1) (when (((fits 4 true (toF (List.getD r2.1 0 em))) && true) && true) (when (decide ((List.length o + List.length [(toF (List.getD r2.1 0 em))]) * 64 ≤ roomy) && decide (List.length o + List.length [(toF (List.getD r2.1 0 em))] ≤ roomy)) (L_ref25_Cut_1_1 R k w n a b (IntKind.wrap .i64 (c + 1)) d e f g h i j l m (o ++ [(toF (List.getD r2.1 0 em))])))))))
 (some ((.exit 0), X_ref25_Cut_1_1 h i j l m o)) := by kernel_rfl
theorem X_ref25_Cut_1_0_eq (R : Orc) (k : Nat) (w : Bool) (a b c : Int) (d : List FV) (e : Int) : K_ref25_Cut_1 R k w (.exit 0) (X_ref25_Cut_1_0 a b c d e) = some ([.fz (.ag [.int .i64 c, .sl d, .sl [], .int .i64 e])], []) := by kernel_rfl
theorem X_ref25_Cut_1_1_eq (R : Orc) (k : Nat) (w : Bool) (a b c : Int) (d : List FV) (e : Int) (f : List FV) : K_ref25_Cut_1 R k w (.exit 0) (X_ref25_Cut_1_1 a b c d e f) = some ([.fz (.ag [.int .i64 c, .sl d, .sl f, .int .i64 e])], []) := by kernel_rfl
/-! keyhole/keyholeref25.Whole -/
def C_ref25_Whole : ACode := codeOf 19 Try.f19
def A_ref25_Whole_b1 : ACode := C_ref25_Whole.at [1, 1, 0, 1, 0, 0]
def A_ref25_Whole_s1 : ACode := C_ref25_Whole.at [1, 1, 1]
def A_ref25_Whole : AFunc := ⟨2, [(.cell 4 4 true, .fz)], C_ref25_Whole, none⟩
def K_ref25_Whole_1 (R : Orc) (k : Nat) (w : Bool) : AExit → St → Option Ans := (kBlk 0 (kSeq R k w [] A_ref25_Whole_s1 (kFin R [(.cell 4 4 true, .fz)] [])))
def L_ref25_Whole_1_0 (R : Orc) (k : Nat) (w : Bool) (n : Nat) (a : List FV) (b c d e f g : Int) (h : ByteArray) (i j : List FV) (l m o p : Int) := loopL R k w [] [0, 3, 4, 5, 6] [4, 5] A_ref25_Whole_b1 n ⟨[(0, .fz (.sl a)), (3, .ptr 4096 0 0), (4, .ptr 4097 0 0), (5, .ptr 4098 0 0), (6, .fz (.int .i64 b))], [(4095, .dead), (4096, .var 8 true (.fz (.ag [.int .i64 c, .int .i64 d, .int .i64 e, .int .i64 f, .int .i64 g, .str h, .sl i, .sl j]))), (4097, .var 4 true (.ag [.fz (.int .i64 l), .nils, .nils, .fz (.int .i64 m)])), (4098, .var 4 true (.ag [.fz (.int .i64 o), .nils, .nils, .fz (.int .i64 p)]))]⟩
def L_ref25_Whole_1_1 (R : Orc) (k : Nat) (w : Bool) (n : Nat) (a : List FV) (b c d e f g : Int) (h : ByteArray) (i j : List FV) (l m o p : Int) (q s : List FV) := loopL R k w [] [0, 3, 4, 5, 6] [4, 5] A_ref25_Whole_b1 n ⟨[(0, .fz (.sl a)), (3, .ptr 4096 0 0), (4, .ptr 4097 0 0), (5, .ptr 4098 0 0), (6, .fz (.int .i64 b))], [(4095, .dead), (4096, .var 8 true (.fz (.ag [.int .i64 c, .int .i64 d, .int .i64 e, .int .i64 f, .int .i64 g, .str h, .sl i, .sl j]))), (4097, .var 4 true (.ag [.fz (.int .i64 l), .nils, .nils, .fz (.int .i64 m)])), (4098, .var 4 true (.ag [.fz (.int .i64 o), .rw 4099, .rw 4100, .fz (.int .i64 p)])), (4099, .row 1 false q), (4100, .row 4 true s)]⟩
def X_ref25_Whole_1_0 (a b c d : Int) : St := ⟨[(4, .ptr 4096 0 0), (5, .ptr 4097 0 0)], [(4095, .dead), (4096, .var 4 true (.ag [.fz (.int .i64 a), .nils, .nils, .fz (.int .i64 b)])), (4097, .var 4 true (.ag [.fz (.int .i64 c), .nils, .nils, .fz (.int .i64 d)]))]⟩
def X_ref25_Whole_1_1 (a b c d : Int) (e f : List FV) : St := ⟨[(4, .ptr 4096 0 0), (5, .ptr 4097 0 0)], [(4095, .dead), (4096, .var 4 true (.ag [.fz (.int .i64 a), .nils, .nils, .fz (.int .i64 b)])), (4097, .var 4 true (.ag [.fz (.int .i64 c), .rw 4098, .rw 4099, .fz (.int .i64 d)])), (4098, .row 1 false e), (4099, .row 4 true f)]⟩
theorem E_ref25_Whole (R : Orc) (k : Nat) (w : Bool) (a : List FV) (b c d e f : Int) (g : ByteArray) (h i : List FV) : callL R k w A_ref25_Whole [.fz (.sl a), .fz (.ag [.int .i64 b, .int .i64 c, .int .i64 d, .int .i64 e, .int .i64 f, .str g, .sl h, .sl i])] = onR (R N_ref09_Bottom [.fz (.sl a)]) fun r0 => when (List.isEmpty r0.2 && allF [.fz] r0.1) (when (isInt .i64 (toF (List.getD r0.1 0 em))) (onL (L_ref25_Whole_1_0 R k w k a 0 b c d e f g h i 0 0 b (toInt (toF (List.getD r0.1 0 em)))) (K_ref25_Whole_1 R k w))) := by kernel_rfl
theorem L_ref25_Whole_1_0_eq (R : Orc) (k : Nat) (w : Bool) (n : Nat) (a : List FV) (b c d e f g : Int) (h : ByteArray) (i j : List FV) (l m o p : Int) : L_ref25_Whole_1_0 R k w (n + 1) a b c d e f g h i j l m o p = ifB (decide (b < (List.length i : Int)))
 (ifB (e == 6)
 (when ((decide (0 ≤ b)) && (decide (b < (List.length j : Int)))) (when (fits 1 false (List.getD j (Int.toNat b) nilp)) (when (isStr (List.getD j (Int.toNat b) nilp)) (when (decide (((0 : Nat) + List.length [(FV.str (toStr (List.getD j (Int.toNat b) nilp)))]) * 16 ≤ roomy) && decide ((0 : Nat) + List.length [(FV.str (toStr (List.getD j (Int.toNat b) nilp)))] ≤ roomy)) (when ((decide (0 ≤ b)) && (decide (b < (List.length i : Int)))) (when (fits 8 true (List.getD i (Int.toNat b) nilp)) (onR (R N_ref25_Whole [.fz (.sl a), .fz (List.getD i (Int.toNat b) nilp)]) fun r1 => when (List.isEmpty r1.2 && allF [.fz] r1.1) (when (((fits 4 true (toF (List.getD r1.1 0 em))) && true) && true) (when (decide (((0 : Nat) + List.length [(toF (List.getD r1.1 0 em))]) * 64 ≤ roomy) && decide ((0 : Nat) + List.length [(toF (List.getD r1.1 0 em))] ≤ roomy)) (L_ref25_Whole_1_1 R k w n a (IntKind.wrap .i64 (b + 1)) c d e f g h i j l m o p [(.str (toStr (List.getD j (Int.toNat b) nilp)))] [(toF (List.getD r1.1 0 em))]))))))))))
 (when ((decide (0 ≤ b)) && (decide (b < (List.length i : Int)))) (when (fits 8 true (List.getD i (Int.toNat b) nilp)) (onR (R N_ref09_Deep [.fz (.sl a), .fz (List.getD i (Int.toNat b) nilp)]) fun r2 => when (List.isEmpty r2.2 && allF [.fz] r2.1) (when (isInt .i64 (toF (List.getD r2.1 0 em))) (onR (R N_ref09_Join [.fz (.sl a), .fz (.int .i64 p), .fz (.int .i64 (toInt (toF (List.getD r2.1 0 em))))]) fun r3 => when (List.isEmpty r3.2 && allF [.fz] r3.1) (when (isInt .i64 (toF (List.getD r3.1 0 em))) (L_ref25_Whole_1_0 R k w n a (IntKind.wrap .i64 (b + 1)) c d e f g h i j l m o (toInt (toF (List.getD r3.1 0 em)))))))))))
 (some ((.exit 0), X_ref25_Whole_1_0 l m o p)) := by kernel_rfl
theorem L_ref25_Whole_1_1_eq (R : Orc) (k : Nat) (w : Bool) (n : Nat) (a : List FV) (b c d e f g : Int) (h : ByteArray) (i j : List FV) (l m o p : Int) (q s : List FV) : L_ref25_Whole_1_1 R k w (n + 1) a b c d e f g h i j l m o p q s = ifB (decide (b < (List.length i : Int)))
 (ifB (e == 6)
 (when ((decide (0 ≤ b)) && (decide (b < (List.length j : Int)))) (when (fits 1 false (List.getD j (Int.toNat b) nilp)) (when (isStr (List.getD j (Int.toNat b) nilp)) (when (decide ((List.length q + List.length [(FV.str (toStr (List.getD j (Int.toNat b) nilp)))]) * 16 ≤ roomy) && decide (List.length q + List.length [(FV.str (toStr (List.getD j (Int.toNat b) nilp)))] ≤ roomy)) (when ((decide (0 ≤ b)) && (decide (b < (List.length i : Int)))) (when (fits 8 true (List.getD i (Int.toNat b) nilp)) (onR (R N_ref25_Whole [.fz (.sl a), .fz (List.getD i (Int.toNat b) nilp)]) fun r4 => when (List.isEmpty r4.2 && allF [.fz] r4.1) (when (((fits 4 true (toF (List.getD r4.1 0 em))) && true) && true) (when (decide ((List.length s + List.length [(toF (List.getD r4.1 0 em))]) * 64 ≤ roomy) && decide (List.length s + List.length [(toF (List.getD r4.1 0 em))] ≤ roomy)) (L_ref25_Whole_1_1 R k w n a (IntKind.wrap .i64 (b + 1)) c d e f g h i j l m o p (q ++ [(FV.str (toStr (List.getD j (Int.toNat b) nilp)))]) (s ++ [(toF (List.getD r4.1 0 em))])))))))))))
 (when ((decide (0 ≤ b)) && (decide (b < (List.length i : Int)))) (when (fits 8 true (List.getD i (Int.toNat b) nilp)) (onR (R N_ref09_Deep [.fz (.sl a), .fz (List.getD i (Int.toNat b) nilp)]) fun r5 => when (List.isEmpty r5.2 && allF [.fz] r5.1) (when (isInt .i64 (toF (List.getD r5.1 0 em))) (onR (R N_ref09_Join [.fz (.sl a), .fz (.int .i64 p), .fz (.int .i64 (toInt (toF (List.getD r5.1 0 em))))]) fun r6 => when (List.isEmpty r6.2 && allF [.fz] r6.1) (when (isInt .i64 (toF (List.getD r6.1 0 em))) (L_ref25_Whole_1_1 R k w n a (IntKind.wrap .i64 (b + 1)) c d e f g h i j l m o (toInt (toF (List.getD r6.1 0 em))) q s))))))))
 (some ((.exit 0), X_ref25_Whole_1_1 l m o p q s)) := by kernel_rfl
theorem X_ref25_Whole_1_0_eq (R : Orc) (k : Nat) (w : Bool) (a b c d : Int) : K_ref25_Whole_1 R k w (.exit 0) (X_ref25_Whole_1_0 a b c d) = some ([.fz (.ag [.int .i64 c, .sl [], .sl [], .int .i64 d])], []) := by kernel_rfl
theorem X_ref25_Whole_1_1_eq (R : Orc) (k : Nat) (w : Bool) (a b c d : Int) (e f : List FV) : K_ref25_Whole_1 R k w (.exit 0) (X_ref25_Whole_1_1 a b c d e f) = some ([.fz (.ag [.int .i64 c, .sl e, .sl f, .int .i64 d])], []) := by kernel_rfl
/-! keyhole/ltype.Node -/
def C_ltype_Node : ACode := codeOf 20 Try.f20
def A_ltype_Node : AFunc := ⟨2, [(.cell 4 4 true, .fz)], C_ltype_Node, none⟩
theorem E_ltype_Node (R : Orc) (k : Nat) (w : Bool) (a : FV) (b c d e f : Int) (g : ByteArray) (h i : List FV) : callL R k w A_ltype_Node [.fz (.pt 195 true a 0), .fz (.ag [.int .i64 b, .int .i64 c, .int .i64 d, .int .i64 e, .int .i64 f, .str g, .sl h, .sl i])] = onR (R N_ltype_least [.fz (.pt 195 true a 0), .fz (.ag [.int .i64 b, .int .i64 c, .int .i64 d, .int .i64 e, .int .i64 f, .str g, .sl h, .sl i]), .fz (.int .i64 3)]) fun r0 => when (List.isEmpty r0.2 && allF [.fz] r0.1) (when (fits 4 true (toF (List.getD r0.1 0 em))) (some ([.fz (toF (List.getD r0.1 0 em))], []))) := by kernel_rfl
/-! keyhole/ltype.Fits -/
def C_ltype_Fits : ACode := codeOf 21 Try.f21
def A_ltype_Fits : AFunc := ⟨3, [(.tmp 6, .fz)], C_ltype_Fits, none⟩
theorem E_ltype_Fits (R : Orc) (k : Nat) (w : Bool) (a : FV) (b : Int) (c d : List FV) (e f g h i j : Int) (l : ByteArray) (m o : List FV) : callL R k w A_ltype_Fits [.fz (.pt 195 true a 0), .fz (.ag [.int .i64 b, .sl c, .sl d, .int .i64 e]), .fz (.ag [.int .i64 f, .int .i64 g, .int .i64 h, .int .i64 i, .int .i64 j, .str l, .sl m, .sl o])] = onR (R N_level_Lattice_Leq [.fz (.pt 195 true a 0), .fz (.int .i64 f), .fz (.int .i64 b)]) fun r0 => when (List.isEmpty r0.2 && allF [.fz] r0.1) (when (isBool (toF (List.getD r0.1 0 em))) (ifB (toBool (toF (List.getD r0.1 0 em)))
 (onR (R N_ltype_items [.fz (.pt 195 true a 0), .fz (.ag [.int .i64 b, .sl c, .sl d, .int .i64 e]), .fz (.ag [.int .i64 f, .int .i64 g, .int .i64 h, .int .i64 i, .int .i64 j, .str l, .sl m, .sl o])]) fun r1 => when (List.isEmpty r1.2 && allF [.fz] r1.1) (when (isBool (toF (List.getD r1.1 0 em))) (some ([.fz (.bool (toBool (toF (List.getD r1.1 0 em))))], []))))
 (some ([.fz (.bool false)], [])))) := by kernel_rfl
/-! keyhole/keyholeref25.Fits -/
def C_ref25_Fits : ACode := codeOf 22 Try.f22
def A_ref25_Fits_b1 : ACode := C_ref25_Fits.at [1, 1, 0, 1, 0, 0]
def A_ref25_Fits_s1 : ACode := C_ref25_Fits.at [1, 1, 1]
def A_ref25_Fits : AFunc := ⟨3, [(.tmp 6, .fz)], C_ref25_Fits, none⟩
def K_ref25_Fits_1 (R : Orc) (k : Nat) (w : Bool) : AExit → St → Option Ans := (kBlk 0 (kSeq R k w [] A_ref25_Fits_s1 (kFin R [(.tmp 6, .fz)] [])))
def L_ref25_Fits_1_0 (R : Orc) (k : Nat) (w : Bool) (n : Nat) (a : List FV) (b : Bool) (c d : Int) (e f : List FV) (g h i j l m : Int) (o : ByteArray) (p q : List FV) := loopL R k w [] [0, 4, 5, 7, 8] [7] A_ref25_Fits_b1 n ⟨[(0, .fz (.sl a)), (4, .ptr 4096 0 0), (5, .ptr 4097 0 0), (7, .fz (.bool b)), (8, .fz (.int .i64 c))], [(4095, .dead), (4096, .var 4 true (.fz (.ag [.int .i64 d, .sl e, .sl f, .int .i64 g]))), (4097, .var 8 true (.fz (.ag [.int .i64 h, .int .i64 i, .int .i64 j, .int .i64 l, .int .i64 m, .str o, .sl p, .sl q])))]⟩
def X_ref25_Fits_1_0 (a : Bool) : St := ⟨[(7, .fz (.bool a))], [(4095, .dead)]⟩
theorem E_ref25_Fits (R : Orc) (k : Nat) (w : Bool) (a : List FV) (b : Int) (c d : List FV) (e f g h i j : Int) (l : ByteArray) (m o : List FV) : callL R k w A_ref25_Fits [.fz (.sl a), .fz (.ag [.int .i64 b, .sl c, .sl d, .int .i64 e]), .fz (.ag [.int .i64 f, .int .i64 g, .int .i64 h, .int .i64 i, .int .i64 j, .str l, .sl m, .sl o])] = when ((decide (0 ≤ f)) && (decide (f < (List.length a : Int)))) (when (fits 1 false (List.getD a (Int.toNat f) nilp)) (when (isSl (List.getD a (Int.toNat f) nilp)) (when ((decide (0 ≤ b)) && (decide (b < (List.length (toSl (List.getD a (Int.toNat f) nilp)) : Int)))) (when (fits 1 false (List.getD (toSl (List.getD a (Int.toNat f) nilp)) (Int.toNat b) nilp)) (when (isBool (List.getD (toSl (List.getD a (Int.toNat f) nilp)) (Int.toNat b) nilp)) (onL (L_ref25_Fits_1_0 R k w k a (toBool (List.getD (toSl (List.getD a (Int.toNat f) nilp)) (Int.toNat b) nilp)) 0 b c d e f g h i j l m o) (K_ref25_Fits_1 R k w))))))) := by kernel_rfl
theorem L_ref25_Fits_1_0_eq (R : Orc) (k : Nat) (w : Bool) (n : Nat) (a : List FV) (b : Bool) (c d : Int) (e f : List FV) (g h i j l m : Int) (o : ByteArray) (p q : List FV) : L_ref25_Fits_1_0 R k w (n + 1) a b c d e f g h i j l m o p q = ifB (decide (c < (List.length p : Int)))
 (ifB (j == 6)
 (ifB b
 (when ((decide (0 ≤ c)) && (decide (c < (List.length q : Int)))) (when (fits 1 false (List.getD q (Int.toNat c) nilp)) (when (isStr (List.getD q (Int.toNat c) nilp)) (onR (R N_ref25_Of [.fz (.ag [.int .i64 d, .sl e, .sl f, .int .i64 g]), .fz (.str (toStr (List.getD q (Int.toNat c) nilp)))]) fun r0 => when (List.isEmpty r0.2 && allF [.fz] r0.1) (when ((decide (0 ≤ c)) && (decide (c < (List.length p : Int)))) (when (fits 8 true (List.getD p (Int.toNat c) nilp)) (onR (R N_ref25_Fits [.fz (.sl a), .fz (toF (List.getD r0.1 0 em)), .fz (List.getD p (Int.toNat c) nilp)]) fun r1 => when (List.isEmpty r1.2 && allF [.fz] r1.1) (when (isBool (toF (List.getD r1.1 0 em))) (L_ref25_Fits_1_0 R k w n a (toBool (toF (List.getD r1.1 0 em))) (IntKind.wrap .i64 (c + 1)) d e f g h i j l m o p q)))))))))
 (L_ref25_Fits_1_0 R k w n a false (IntKind.wrap .i64 (c + 1)) d e f g h i j l m o p q))
 (ifB b
 (when ((decide (0 ≤ c)) && (decide (c < (List.length p : Int)))) (when (fits 8 true (List.getD p (Int.toNat c) nilp)) (onR (R N_ref09_Deep [.fz (.sl a), .fz (List.getD p (Int.toNat c) nilp)]) fun r2 => when (List.isEmpty r2.2 && allF [.fz] r2.1) (when (isInt .i64 (toF (List.getD r2.1 0 em))) (when ((decide (0 ≤ (toInt (toF (List.getD r2.1 0 em))))) && (decide ((toInt (toF (List.getD r2.1 0 em))) < (List.length a : Int)))) (when (fits 1 false (List.getD a (Int.toNat (toInt (toF (List.getD r2.1 0 em)))) nilp)) (when (isSl (List.getD a (Int.toNat (toInt (toF (List.getD r2.1 0 em)))) nilp)) (when ((decide (0 ≤ g)) && (decide (g < (List.length (toSl (List.getD a (Int.toNat (toInt (toF (List.getD r2.1 0 em)))) nilp)) : Int)))) (when (fits 1 false (List.getD (toSl (List.getD a (Int.toNat (toInt (toF (List.getD r2.1 0 em)))) nilp)) (Int.toNat g) nilp)) (when (isBool (List.getD (toSl (List.getD a (Int.toNat (toInt (toF (List.getD r2.1 0 em)))) nilp)) (Int.toNat g) nilp)) (L_ref25_Fits_1_0 R k w n a (toBool (List.getD (toSl (List.getD a (Int.toNat (toInt (toF (List.getD r2.1 0 em)))) nilp)) (Int.toNat g) nilp)) (IntKind.wrap .i64 (c + 1)) d e f g h i j l m o p q)))))))))))
 (L_ref25_Fits_1_0 R k w n a false (IntKind.wrap .i64 (c + 1)) d e f g h i j l m o p q)))
 (some ((.exit 0), X_ref25_Fits_1_0 b)) := by kernel_rfl
theorem X_ref25_Fits_1_0_eq (R : Orc) (k : Nat) (w a : Bool) : K_ref25_Fits_1 R k w (.exit 0) (X_ref25_Fits_1_0 a) = some ([.fz (.bool a)], []) := by kernel_rfl
/-! keyhole/keyholeref25.Same -/
def C_ref25_Same : ACode := codeOf 23 Try.f23
def A_ref25_Same_b1 : ACode := C_ref25_Same.at [1, 1, 0, 0, 1, 0, 0]
def A_ref25_Same_b2 : ACode := C_ref25_Same.at [1, 1, 0, 1, 0, 1, 0, 0]
def A_ref25_Same_s1 : ACode := C_ref25_Same.at [1, 1, 0, 1, 1]
def A_ref25_Same_s2 : ACode := C_ref25_Same.at [1, 1, 0, 1]
def A_ref25_Same_j3 : ACode := C_ref25_Same.at [1, 1, 0]
def A_ref25_Same : AFunc := ⟨2, [(.tmp 4, .fz)], C_ref25_Same, none⟩
def J_ref25_Same_3_0 (R : Orc) (k : Nat) (w : Bool) (a : Int) (b c : List FV) (d e : Int) (f g : List FV) (h : Int) := execL R k w [] A_ref25_Same_j3 Ans ⟨[(2, .ptr 4096 0 0), (3, .ptr 4097 0 0)], [(4095, .dead), (4096, .var 4 true (.fz (.ag [.int .i64 a, .sl b, .sl c, .int .i64 d]))), (4097, .var 4 true (.fz (.ag [.int .i64 e, .sl f, .sl g, .int .i64 h])))]⟩ (kFin R [(.tmp 4, .fz)] [])
def K_ref25_Same_1 (R : Orc) (k : Nat) (w : Bool) : AExit → St → Option Ans := (kBlk 0 (kSeq R k w [] A_ref25_Same_s2 (kFin R [(.tmp 4, .fz)] [])))
def L_ref25_Same_1_0 (R : Orc) (k : Nat) (w : Bool) (n : Nat) (a b : Int) (c d : List FV) (e f : Int) (g h : List FV) (i : Int) := loopL R k w [] [2, 3, 5] [2, 3, 4] A_ref25_Same_b1 n ⟨[(2, .ptr 4096 0 0), (3, .ptr 4097 0 0), (5, .fz (.int .i64 a))], [(4095, .dead), (4096, .var 4 true (.fz (.ag [.int .i64 b, .sl c, .sl d, .int .i64 e]))), (4097, .var 4 true (.fz (.ag [.int .i64 f, .sl g, .sl h, .int .i64 i])))]⟩
def X_ref25_Same_1_0 (a : Bool) (b : Int) (c d : List FV) (e f : Int) (g h : List FV) (i : Int) : St := ⟨[(2, .ptr 4096 0 0), (3, .ptr 4097 0 0), (4, .fz (.bool a))], [(4095, .dead), (4096, .var 4 true (.fz (.ag [.int .i64 b, .sl c, .sl d, .int .i64 e]))), (4097, .var 4 true (.fz (.ag [.int .i64 f, .sl g, .sl h, .int .i64 i])))]⟩
def X_ref25_Same_1_1 (a : Int) (b c : List FV) (d e : Int) (f g : List FV) (h : Int) : St := ⟨[(2, .ptr 4096 0 0), (3, .ptr 4097 0 0)], [(4095, .dead), (4096, .var 4 true (.fz (.ag [.int .i64 a, .sl b, .sl c, .int .i64 d]))), (4097, .var 4 true (.fz (.ag [.int .i64 e, .sl f, .sl g, .int .i64 h])))]⟩
def K_ref25_Same_2 (R : Orc) (k : Nat) (w : Bool) : AExit → St → Option Ans := (kBlk 2 (kSeq R k w [] A_ref25_Same_s1 (kFin R [(.tmp 4, .fz)] [])))
def L_ref25_Same_2_0 (R : Orc) (k : Nat) (w : Bool) (n : Nat) (a b : Int) (c d : List FV) (e f : Int) (g h : List FV) (i : Int) := loopL R k w [] [2, 3, 6] [4] A_ref25_Same_b2 n ⟨[(2, .ptr 4096 0 0), (3, .ptr 4097 0 0), (6, .fz (.int .i64 a))], [(4095, .dead), (4096, .var 4 true (.fz (.ag [.int .i64 b, .sl c, .sl d, .int .i64 e]))), (4097, .var 4 true (.fz (.ag [.int .i64 f, .sl g, .sl h, .int .i64 i])))]⟩
def X_ref25_Same_2_0 (a : Bool) : St := ⟨[(4, .fz (.bool a))], [(4095, .dead)]⟩
def X_ref25_Same_2_1 : St := ⟨[], [(4095, .dead)]⟩
theorem E_ref25_Same (R : Orc) (k : Nat) (w : Bool) (a : Int) (b c : List FV) (d e : Int) (f g : List FV) (h : Int) : callL R k w A_ref25_Same [.fz (.ag [.int .i64 a, .sl b, .sl c, .int .i64 d]), .fz (.ag [.int .i64 e, .sl f, .sl g, .int .i64 h])] = ifB (a != e)
 (some ([.fz (.bool false)], []))
 (ifB (d != h)
 (some ([.fz (.bool false)], []))
 (ifB ((List.length b : Int) != (List.length f : Int))
 (some ([.fz (.bool false)], []))
 (ifB ((List.length c : Int) != (List.length g : Int))
 (some ([.fz (.bool false)], []))
 (jump w (J_ref25_Same_3_0 R k w a b c d e f g h))))) := by kernel_rfl
theorem J_ref25_Same_3_0_eq (R : Orc) (k : Nat) (w : Bool) (a : Int) (b c : List FV) (d e : Int) (f g : List FV) (h : Int) : J_ref25_Same_3_0 R k w a b c d e f g h = onL (L_ref25_Same_1_0 R k w k 0 a b c d e f g h) (K_ref25_Same_1 R k w) := by kernel_rfl
theorem L_ref25_Same_1_0_eq (R : Orc) (k : Nat) (w : Bool) (n : Nat) (a b : Int) (c d : List FV) (e f : Int) (g h : List FV) (i : Int) : L_ref25_Same_1_0 R k w (n + 1) a b c d e f g h i = ifB (decide (a < (List.length c : Int)))
 (when ((decide (0 ≤ a)) && (decide (a < (List.length c : Int)))) (when (fits 1 false (List.getD c (Int.toNat a) nilp)) (when (isStr (List.getD c (Int.toNat a) nilp)) (when ((decide (0 ≤ a)) && (decide (a < (List.length g : Int)))) (when (fits 1 false (List.getD g (Int.toNat a) nilp)) (when (isStr (List.getD g (Int.toNat a) nilp)) (ifB (!(ByteArray.toList (toStr (List.getD c (Int.toNat a) nilp)) == ByteArray.toList (toStr (List.getD g (Int.toNat a) nilp))))
 (some (.ret, X_ref25_Same_1_0 false b c d e f g h i))
 (L_ref25_Same_1_0 R k w n (IntKind.wrap .i64 (a + 1)) b c d e f g h i))))))))
 (some ((.exit 0), X_ref25_Same_1_1 b c d e f g h i)) := by kernel_rfl
theorem X_ref25_Same_1_0_eq (R : Orc) (k : Nat) (w a : Bool) (b : Int) (c d : List FV) (e f : Int) (g h : List FV) (i : Int) : K_ref25_Same_1 R k w .ret (X_ref25_Same_1_0 a b c d e f g h i) = some ([.fz (.bool a)], []) := by kernel_rfl
theorem X_ref25_Same_1_1_eq (R : Orc) (k : Nat) (w : Bool) (a : Int) (b c : List FV) (d e : Int) (f g : List FV) (h : Int) : K_ref25_Same_1 R k w (.exit 0) (X_ref25_Same_1_1 a b c d e f g h) = onL (L_ref25_Same_2_0 R k w k 0 a b c d e f g h) (K_ref25_Same_2 R k w) := by kernel_rfl
theorem L_ref25_Same_2_0_eq (R : Orc) (k : Nat) (w : Bool) (n : Nat) (a b : Int) (c d : List FV) (e f : Int) (g h : List FV) (i : Int) : L_ref25_Same_2_0 R k w (n + 1) a b c d e f g h i = ifB (decide (a < (List.length d : Int)))
 (when ((decide (0 ≤ a)) && (decide (a < (List.length d : Int)))) (when (fits 4 true (List.getD d (Int.toNat a) nilp)) (when ((decide (0 ≤ a)) && (decide (a < (List.length h : Int)))) (when (fits 4 true (List.getD h (Int.toNat a) nilp)) (onR (R N_ref25_Same [.fz (List.getD d (Int.toNat a) nilp), .fz (List.getD h (Int.toNat a) nilp)]) fun r0 => when (List.isEmpty r0.2 && allF [.fz] r0.1) (when (isBool (toF (List.getD r0.1 0 em))) (ifB (!(toBool (toF (List.getD r0.1 0 em))))
 (some (.ret, X_ref25_Same_2_0 false))
 (L_ref25_Same_2_0 R k w n (IntKind.wrap .i64 (a + 1)) b c d e f g h i))))))))
 (some ((.exit 2), X_ref25_Same_2_1)) := by kernel_rfl
theorem X_ref25_Same_2_0_eq (R : Orc) (k : Nat) (w a : Bool) : K_ref25_Same_2 R k w .ret (X_ref25_Same_2_0 a) = some ([.fz (.bool a)], []) := by kernel_rfl
theorem X_ref25_Same_2_1_eq (R : Orc) (k : Nat) (w : Bool) : K_ref25_Same_2 R k w (.exit 2) (X_ref25_Same_2_1) = some ([.fz (.bool true)], []) := by kernel_rfl
/-! keyhole/keyholeref25.All -/
def C_ref25_All : ACode := codeOf 29 Try.f29
def A_ref25_All_b1 : ACode := C_ref25_All.at [1, 1, 0, 1, 0, 0]
def A_ref25_All_s1 : ACode := C_ref25_All.at [1, 1, 1]
def A_ref25_All : AFunc := ⟨2, [(.tmp 4, .fz)], C_ref25_All, none⟩
def K_ref25_All_1 (R : Orc) (k : Nat) (w : Bool) : AExit → St → Option Ans := (kBlk 0 (kSeq R k w [] A_ref25_All_s1 (kFin R [(.tmp 4, .fz)] [])))
def L_ref25_All_1_0 (R : Orc) (k : Nat) (w : Bool) (n : Nat) (a : List FV) (b c d : Int) (e f : List FV) (g : Int) := loopL R k w [] [0, 3, 5, 6] [5] A_ref25_All_b1 n ⟨[(0, .fz (.sl a)), (3, .ptr 4096 0 0), (5, .fz (.int .i64 b)), (6, .fz (.int .i64 c))], [(4095, .dead), (4096, .var 4 true (.fz (.ag [.int .i64 d, .sl e, .sl f, .int .i64 g])))]⟩
def X_ref25_All_1_0 (a : Int) : St := ⟨[(5, .fz (.int .i64 a))], [(4095, .dead)]⟩
theorem E_ref25_All (R : Orc) (k : Nat) (w : Bool) (a : List FV) (b : Int) (c d : List FV) (e : Int) : callL R k w A_ref25_All [.fz (.sl a), .fz (.ag [.int .i64 b, .sl c, .sl d, .int .i64 e])] = onR (R N_ref09_Join [.fz (.sl a), .fz (.int .i64 b), .fz (.int .i64 e)]) fun r0 => when (List.isEmpty r0.2 && allF [.fz] r0.1) (when (isInt .i64 (toF (List.getD r0.1 0 em))) (onL (L_ref25_All_1_0 R k w k a (toInt (toF (List.getD r0.1 0 em))) 0 b c d e) (K_ref25_All_1 R k w))) := by kernel_rfl
theorem L_ref25_All_1_0_eq (R : Orc) (k : Nat) (w : Bool) (n : Nat) (a : List FV) (b c d : Int) (e f : List FV) (g : Int) : L_ref25_All_1_0 R k w (n + 1) a b c d e f g = ifB (decide (c < (List.length f : Int)))
 (when ((decide (0 ≤ c)) && (decide (c < (List.length f : Int)))) (when (fits 4 true (List.getD f (Int.toNat c) nilp)) (onR (R N_ref25_All [.fz (.sl a), .fz (List.getD f (Int.toNat c) nilp)]) fun r1 => when (List.isEmpty r1.2 && allF [.fz] r1.1) (when (isInt .i64 (toF (List.getD r1.1 0 em))) (onR (R N_ref09_Join [.fz (.sl a), .fz (.int .i64 b), .fz (.int .i64 (toInt (toF (List.getD r1.1 0 em))))]) fun r2 => when (List.isEmpty r2.2 && allF [.fz] r2.1) (when (isInt .i64 (toF (List.getD r2.1 0 em))) (L_ref25_All_1_0 R k w n a (toInt (toF (List.getD r2.1 0 em))) (IntKind.wrap .i64 (c + 1)) d e f g)))))))
 (some ((.exit 0), X_ref25_All_1_0 b)) := by kernel_rfl
theorem X_ref25_All_1_0_eq (R : Orc) (k : Nat) (w : Bool) (a : Int) : K_ref25_All_1 R k w (.exit 0) (X_ref25_All_1_0 a) = some ([.fz (.int .i64 a)], []) := by kernel_rfl
/-! keyhole/keyholeref25.Below -/
def C_ref25_Below : ACode := codeOf 31 Try.f31
def A_ref25_Below : AFunc := ⟨2, [(.tmp 4, .fz)], C_ref25_Below, none⟩
theorem E_ref25_Below (R : Orc) (k : Nat) (w : Bool) (a : List FV) (b : Int) (c d : List FV) (e : Int) : callL R k w A_ref25_Below [.fz (.sl a), .fz (.ag [.int .i64 b, .sl c, .sl d, .int .i64 e])] = onR (R N_ref25_All [.fz (.sl a), .fz (.ag [.int .i64 e, .sl c, .sl d, .int .i64 e])]) fun r0 => when (List.isEmpty r0.2 && allF [.fz] r0.1) (when (isInt .i64 (toF (List.getD r0.1 0 em))) (some ([.fz (.int .i64 (toInt (toF (List.getD r0.1 0 em))))], []))) := by kernel_rfl
/-! keyhole/keyholeref09.Join -/
def C_ref09_Join : ACode := codeOf 33 Try.f33
def A_ref09_Join : AFunc := ⟨3, [(.tmp 6, .fz)], C_ref09_Join, none⟩
theorem E_ref09_Join (R : Orc) (k : Nat) (w : Bool) (a : List FV) (b c : Int) : callL R k w A_ref09_Join [.fz (.sl a), .fz (.int .i64 b), .fz (.int .i64 c)] = onR (R N_ref01_Join [.fz (.sl a), .fz (.int .i64 b), .fz (.int .i64 c)]) fun r0 => when (List.isEmpty r0.2 && allF [.fz] r0.1) (when (isSl (toF (List.getD r0.1 0 em))) (when (decide (0 < (List.length (toSl (toF (List.getD r0.1 0 em))) : Int))) (when (fits 1 false (List.getD (toSl (toF (List.getD r0.1 0 em))) 0 nilp)) (when (isInt .i64 (List.getD (toSl (toF (List.getD r0.1 0 em))) 0 nilp)) (some ([.fz (.int .i64 (toInt (List.getD (toSl (toF (List.getD r0.1 0 em))) 0 nilp)))], [])))))) := by kernel_rfl
/-! keyhole/ltype.Of -/
def C_ltype_Of : ACode := codeOf 34 Try.f34
def A_ltype_Of_j1 : ACode := C_ltype_Of.at [1, 1, 0, 1, 0]
def A_ltype_Of_j2 : ACode := C_ltype_Of.at [1, 1, 1, 0]
def A_ltype_Of_s3 : ACode := C_ltype_Of.at [1, 1, 1]
def A_ltype_Of : AFunc := ⟨2, [(.cell 4 4 true, .fz)], C_ltype_Of, none⟩
def J_ltype_Of_1_0 (R : Orc) (k : Nat) (w : Bool) (a : Int) (b : Bool) (c : Int) (d e : List FV) (f g h : Int) := execL R k w [] A_ltype_Of_j1 Ans ⟨[(2, .ptr 4096 0 0), (4, .ptr 4097 0 0), (5, .fz (.int .i64 a)), (22, .fz (.bool b))], [(4095, .dead), (4096, .var 4 true (.fz (.ag [.int .i64 c, .sl d, .sl e, .int .i64 f]))), (4097, .var 4 true (.ag [.fz (.int .i64 g), .nils, .nils, .fz (.int .i64 h)]))]⟩ (kSeq R k w [] A_ltype_Of_s3 (kFin R [(.cell 4 4 true, .fz)] []))
def J_ltype_Of_2_0 (R : Orc) (k : Nat) (w : Bool) (a b : Int) (c d : List FV) (e f g : Int) := execL R k w [] A_ltype_Of_j2 Ans ⟨[(2, .ptr 4096 0 0), (4, .ptr 4097 0 0), (5, .fz (.int .i64 a))], [(4095, .dead), (4096, .var 4 true (.fz (.ag [.int .i64 b, .sl c, .sl d, .int .i64 e]))), (4097, .var 4 true (.ag [.fz (.int .i64 f), .nils, .nils, .fz (.int .i64 g)]))]⟩ (kFin R [(.cell 4 4 true, .fz)] [])
theorem E_ltype_Of (R : Orc) (k : Nat) (w : Bool) (a : Int) (b c : List FV) (d : Int) (e : ByteArray) : callL R k w A_ltype_Of [.fz (.ag [.int .i64 a, .sl b, .sl c, .int .i64 d]), .fz (.str e)] = onR (R N_slices_BinarySearch___string_string_ [.fz (.sl b), .fz (.str e)]) fun r0 => when (List.isEmpty r0.2 && allF [.fz, .fz] r0.1) (when (isInt .i64 (toF (List.getD r0.1 0 em))) (when (isBool (toF (List.getD r0.1 1 em))) (ifB (!(toBool (toF (List.getD r0.1 1 em))))
 (jump w (J_ltype_Of_1_0 R k w (toInt (toF (List.getD r0.1 0 em))) true a b c d 0 0))
 (jump w (J_ltype_Of_1_0 R k w (toInt (toF (List.getD r0.1 0 em))) (decide ((toInt (toF (List.getD r0.1 0 em))) ≥ (List.length c : Int))) a b c d 0 0))))) := by kernel_rfl
theorem J_ltype_Of_1_0_eq (R : Orc) (k : Nat) (w : Bool) (a : Int) (b : Bool) (c : Int) (d e : List FV) (f g h : Int) : J_ltype_Of_1_0 R k w a b c d e f g h = ifB b
 (onR (R N_ltype_Plain [.fz (.int .i64 f)]) fun r1 => when (List.isEmpty r1.2 && allF [.fz] r1.1) (when (fits 4 true (toF (List.getD r1.1 0 em))) (some ([.fz (toF (List.getD r1.1 0 em))], []))))
 (jump w (J_ltype_Of_2_0 R k w a c d e f g h)) := by kernel_rfl
theorem J_ltype_Of_2_0_eq (R : Orc) (k : Nat) (w : Bool) (a b : Int) (c d : List FV) (e f g : Int) : J_ltype_Of_2_0 R k w a b c d e f g = when ((decide (0 ≤ a)) && (decide (a < (List.length d : Int)))) (when (fits 4 true (List.getD d (Int.toNat a) nilp)) (when (fits 4 true (List.getD d (Int.toNat a) nilp)) (some ([.fz (List.getD d (Int.toNat a) nilp)], [])))) := by kernel_rfl
/-! keyhole/keyholeref25.Of -/
def C_ref25_Of : ACode := codeOf 35 Try.f35
def A_ref25_Of_b1 : ACode := C_ref25_Of.at [1, 0, 1, 0, 0]
def A_ref25_Of_s1 : ACode := C_ref25_Of.at [1, 1]
def A_ref25_Of : AFunc := ⟨2, [(.cell 4 4 true, .fz)], C_ref25_Of, none⟩
def K_ref25_Of_1 (R : Orc) (k : Nat) (w : Bool) : AExit → St → Option Ans := (kBlk 0 (kSeq R k w [] A_ref25_Of_s1 (kFin R [(.cell 4 4 true, .fz)] [])))
def L_ref25_Of_1_0 (R : Orc) (k : Nat) (w : Bool) (n : Nat) (a : ByteArray) (b c : Int) (d e : List FV) (f g h : Int) := loopL R k w [] [1, 2, 4, 5] [2, 4] A_ref25_Of_b1 n ⟨[(1, .fz (.str a)), (2, .ptr 4096 0 0), (4, .ptr 4097 0 0), (5, .fz (.int .i64 b))], [(4095, .dead), (4096, .var 4 true (.fz (.ag [.int .i64 c, .sl d, .sl e, .int .i64 f]))), (4097, .var 4 true (.ag [.fz (.int .i64 g), .nils, .nils, .fz (.int .i64 h)]))]⟩
def X_ref25_Of_1_0 (a : Int) (b c : List FV) (d : Int) (e : FV) : St := ⟨[(2, .ptr 4096 0 0), (4, .ptr 4097 0 0)], [(4095, .dead), (4096, .var 4 true (.fz (.ag [.int .i64 a, .sl b, .sl c, .int .i64 d]))), (4097, .var 4 true (.fz e))]⟩
def X_ref25_Of_1_1 (a : Int) (b c : List FV) (d e f : Int) : St := ⟨[(2, .ptr 4096 0 0), (4, .ptr 4097 0 0)], [(4095, .dead), (4096, .var 4 true (.fz (.ag [.int .i64 a, .sl b, .sl c, .int .i64 d]))), (4097, .var 4 true (.ag [.fz (.int .i64 e), .nils, .nils, .fz (.int .i64 f)]))]⟩
theorem E_ref25_Of (R : Orc) (k : Nat) (w : Bool) (a : Int) (b c : List FV) (d : Int) (e : ByteArray) : callL R k w A_ref25_Of [.fz (.ag [.int .i64 a, .sl b, .sl c, .int .i64 d]), .fz (.str e)] = onL (L_ref25_Of_1_0 R k w k e 0 a b c d 0 0) (K_ref25_Of_1 R k w) := by kernel_rfl
theorem L_ref25_Of_1_0_eq (R : Orc) (k : Nat) (w : Bool) (n : Nat) (a : ByteArray) (b c : Int) (d e : List FV) (f g h : Int) : L_ref25_Of_1_0 R k w (n + 1) a b c d e f g h = ifB (decide (b < (List.length d : Int)))
 (when ((decide (0 ≤ b)) && (decide (b < (List.length d : Int)))) (when (fits 1 false (List.getD d (Int.toNat b) nilp)) (when (isStr (List.getD d (Int.toNat b) nilp)) (ifB (ByteArray.toList (toStr (List.getD d (Int.toNat b) nilp)) == ByteArray.toList a)
 (when ((decide (0 ≤ b)) && (decide (b < (List.length e : Int)))) (when (fits 4 true (List.getD e (Int.toNat b) nilp)) (when (fits 4 true (List.getD e (Int.toNat b) nilp)) (some (.ret, X_ref25_Of_1_0 c d e f (List.getD e (Int.toNat b) nilp))))))
 (L_ref25_Of_1_0 R k w n a (IntKind.wrap .i64 (b + 1)) c d e f g h)))))
 (some ((.exit 0), X_ref25_Of_1_1 c d e f g h)) := by kernel_rfl
theorem X_ref25_Of_1_0_eq (R : Orc) (k : Nat) (w : Bool) (a : Int) (b c : List FV) (d : Int) (e : FV) : K_ref25_Of_1 R k w .ret (X_ref25_Of_1_0 a b c d e) = some ([.fz e], []) := by kernel_rfl
theorem X_ref25_Of_1_1_eq (R : Orc) (k : Nat) (w : Bool) (a : Int) (b c : List FV) (d e f : Int) : K_ref25_Of_1 R k w (.exit 0) (X_ref25_Of_1_1 a b c d e f) = some ([.fz (.ag [.int .i64 d, .sl [], .sl [], .int .i64 d])], []) := by kernel_rfl
/-! (*keyhole/level.Lattice).Leq -/
def C_level_Lattice_Leq : ACode := codeOf 39 Try.f39
def A_level_Lattice_Leq : AFunc := ⟨3, [(.tmp 6, .fz)], C_level_Lattice_Leq, none⟩
theorem E_level_Lattice_Leq (R : Orc) (k : Nat) (w : Bool) (a : FV) (b c : Int) : callL R k w A_level_Lattice_Leq [.fz (.pt 195 true a 0), .fz (.int .i64 b), .fz (.int .i64 c)] = onR (R N_level_Lattice_Is [.fz (.pt 195 true a 0), .fz (.int .i64 b)]) fun r0 => when (List.isEmpty r0.2 && allF [.fz] r0.1) (when (isBool (toF (List.getD r0.1 0 em))) (ifB (toBool (toF (List.getD r0.1 0 em)))
 (onR (R N_level_Lattice_Is [.fz (.pt 195 true a 0), .fz (.int .i64 c)]) fun r1 => when (List.isEmpty r1.2 && allF [.fz] r1.1) (when (isBool (toF (List.getD r1.1 0 em))) (ifB (toBool (toF (List.getD r1.1 0 em)))
 (when (decide (0 ≤ b) && decide (b < 8)) (when (decide (0 ≤ c) && decide (c < 8)) (when (isAg 195 a) (when (Nat.blt ((1 + ((Int.toNat b) * 8)) + ((Int.toNat c) * 1)) 195) (when (isBool (cell a ((1 + ((Int.toNat b) * 8)) + ((Int.toNat c) * 1)))) (some ([.fz (.bool (toBool (cell a ((1 + ((Int.toNat b) * 8)) + ((Int.toNat c) * 1)))))], [])))))))
 (some ([.fz (.bool false)], [])))))
 (some ([.fz (.bool false)], [])))) := by kernel_rfl
/-! keyhole/keyholeref25.Size -/
def C_ref25_Size : ACode := codeOf 40 Try.f40
def A_ref25_Size_b1 : ACode := C_ref25_Size.at [1, 1, 1, 0, 1, 0, 0]
def A_ref25_Size_s1 : ACode := C_ref25_Size.at [1, 1, 1, 1]
def A_ref25_Size : AFunc := ⟨3, [(.tmp 6, .fz)], C_ref25_Size, none⟩
def K_ref25_Size_1 (R : Orc) (k : Nat) (w : Bool) : AExit → St → Option Ans := (kBlk 0 (kSeq R k w [] A_ref25_Size_s1 (kFin R [(.tmp 6, .fz)] [])))
def L_ref25_Size_1_0 (R : Orc) (k : Nat) (w : Bool) (n : Nat) (a b c d : Int) (e f : List FV) (g : Int) := loopL R k w [] [1, 2, 3, 7] [1] A_ref25_Size_b1 n ⟨[(1, .fz (.int .i64 a)), (2, .fz (.int .i64 b)), (3, .ptr 4096 0 0), (7, .fz (.int .i64 c))], [(4095, .dead), (4096, .var 4 true (.fz (.ag [.int .i64 d, .sl e, .sl f, .int .i64 g])))]⟩
def X_ref25_Size_1_0 (a : Int) : St := ⟨[(1, .fz (.int .i64 a))], [(4095, .dead)]⟩
theorem E_ref25_Size (R : Orc) (k : Nat) (w : Bool) (a : Int) (b c : List FV) (d e f : Int) : callL R k w A_ref25_Size [.fz (.ag [.int .i64 a, .sl b, .sl c, .int .i64 d]), .fz (.int .i64 e), .fz (.int .i64 f)] = ifB (decide (e ≥ f))
 (some ([.fz (.int .i64 e)], []))
 (onL (L_ref25_Size_1_0 R k w k (IntKind.wrap .i64 (e + 1)) f 0 a b c d) (K_ref25_Size_1 R k w)) := by kernel_rfl
theorem L_ref25_Size_1_0_eq (R : Orc) (k : Nat) (w : Bool) (n : Nat) (a b c d : Int) (e f : List FV) (g : Int) : L_ref25_Size_1_0 R k w (n + 1) a b c d e f g = ifB (decide (c < (List.length f : Int)))
 (when ((decide (0 ≤ c)) && (decide (c < (List.length f : Int)))) (when (fits 4 true (List.getD f (Int.toNat c) nilp)) (onR (R N_ref25_Size [.fz (List.getD f (Int.toNat c) nilp), .fz (.int .i64 a), .fz (.int .i64 b)]) fun r0 => when (List.isEmpty r0.2 && allF [.fz] r0.1) (when (isInt .i64 (toF (List.getD r0.1 0 em))) (L_ref25_Size_1_0 R k w n (toInt (toF (List.getD r0.1 0 em))) b (IntKind.wrap .i64 (c + 1)) d e f g)))))
 (some ((.exit 0), X_ref25_Size_1_0 a)) := by kernel_rfl
theorem X_ref25_Size_1_0_eq (R : Orc) (k : Nat) (w : Bool) (a : Int) : K_ref25_Size_1 R k w (.exit 0) (X_ref25_Size_1_0 a) = some ([.fz (.int .i64 a)], []) := by kernel_rfl
/-! keyhole/keyholeref25.flat -/
def C_ref25_flat : ACode := codeOf 41 Try.f41
def A_ref25_flat_b1 : ACode := C_ref25_flat.at [1, 1, 0, 1, 0, 0]
def A_ref25_flat_s1 : ACode := C_ref25_flat.at [1, 1, 1]
def A_ref25_flat : AFunc := ⟨2, [(.tmp 4, .fz)], C_ref25_flat, none⟩
def K_ref25_flat_1 (R : Orc) (k : Nat) (w : Bool) : AExit → St → Option Ans := (kBlk 0 (kSeq R k w [] A_ref25_flat_s1 (kFin R [(.tmp 4, .fz)] [])))
def L_ref25_flat_1_0 (R : Orc) (k : Nat) (w : Bool) (n : Nat) (a b c : Int) (d e : List FV) (f : Int) := loopL R k w [] [1, 2, 5] [4] A_ref25_flat_b1 n ⟨[(1, .fz (.int .i64 a)), (2, .ptr 4096 0 0), (5, .fz (.int .i64 b))], [(4095, .dead), (4096, .var 4 true (.fz (.ag [.int .i64 c, .sl d, .sl e, .int .i64 f])))]⟩
def X_ref25_flat_1_0 (a : Bool) : St := ⟨[(4, .fz (.bool a))], [(4095, .dead)]⟩
def X_ref25_flat_1_1 : St := ⟨[], [(4095, .dead)]⟩
theorem E_ref25_flat (R : Orc) (k : Nat) (w : Bool) (a : Int) (b c : List FV) (d e : Int) : callL R k w A_ref25_flat [.fz (.ag [.int .i64 a, .sl b, .sl c, .int .i64 d]), .fz (.int .i64 e)] = ifB (decide (e < 0))
 (some ([.fz (.bool false)], []))
 (onL (L_ref25_flat_1_0 R k w k e 0 a b c d) (K_ref25_flat_1 R k w)) := by kernel_rfl
theorem L_ref25_flat_1_0_eq (R : Orc) (k : Nat) (w : Bool) (n : Nat) (a b c : Int) (d e : List FV) (f : Int) : L_ref25_flat_1_0 R k w (n + 1) a b c d e f = ifB (decide (b < (List.length e : Int)))
 (when ((decide (0 ≤ b)) && (decide (b < (List.length e : Int)))) (when (fits 4 true (List.getD e (Int.toNat b) nilp)) (onR (R N_ref25_flat [.fz (List.getD e (Int.toNat b) nilp), .fz (.int .i64 (IntKind.wrap .i64 (a - 1)))]) fun r0 => when (List.isEmpty r0.2 && allF [.fz] r0.1) (when (isBool (toF (List.getD r0.1 0 em))) (ifB (!(toBool (toF (List.getD r0.1 0 em))))
 (some (.ret, X_ref25_flat_1_0 false))
 (L_ref25_flat_1_0 R k w n a (IntKind.wrap .i64 (b + 1)) c d e f))))))
 (some ((.exit 0), X_ref25_flat_1_1)) := by kernel_rfl
theorem X_ref25_flat_1_0_eq (R : Orc) (k : Nat) (w a : Bool) : K_ref25_flat_1 R k w .ret (X_ref25_flat_1_0 a) = some ([.fz (.bool a)], []) := by kernel_rfl
theorem X_ref25_flat_1_1_eq (R : Orc) (k : Nat) (w : Bool) : K_ref25_flat_1 R k w (.exit 0) (X_ref25_flat_1_1) = some ([.fz (.bool true)], []) := by kernel_rfl
/-! keyhole/level.New -/
def C_level_New : ACode := codeOf 42 Try.f42
def A_level_New : AFunc := ⟨1, [(.tmp 2, .fz), (.tmp 3, .fz)], C_level_New, none⟩
theorem E_level_New (R : Orc) (k : Nat) (w : Bool) (a b c : List FV) : callL R k w A_level_New [.fz (.ag [.sl a, .sl b, .sl c])] = onR (R N_level_named [.fz (.sl a)]) fun r0 => when (List.isEmpty r0.2 && allF [.fz] r0.1) (when (isBool (toF (List.getD r0.1 0 em))) (ifB (!(toBool (toF (List.getD r0.1 0 em))))
 (some ([.fz nilp, .fz (.int .i64 10)], []))
 (onR (R N_level_laid [.fz (.int .i64 (List.length a : Int)), .fz (.sl b)]) fun r1 => when (List.isEmpty r1.2 && allF [.fz, .fz] r1.1) (when (isBool (toF (List.getD r1.1 1 em))) (when (fits 64 true (toF (List.getD r1.1 0 em))) (ifB (!(toBool (toF (List.getD r1.1 1 em))))
 (some ([.fz nilp, .fz (.int .i64 2)], []))
 (when (List.all a (fits 1 false)) (when (decide (((0 : Nat) + List.length a) * 16 ≤ roomy) && decide ((0 : Nat) + List.length a ≤ roomy)) (onR (R N_level_closed [.fz (toF (List.getD r1.1 0 em)), .fz (.int .i64 (List.length a : Int))]) fun r2 => when (List.isEmpty r2.2 && allF [.fz] r2.1) (when (isAg 64 (toF (List.getD r2.1 0 em))) (onR (R N_level_twisted [.fz (.ag [(cell (toF (List.getD r2.1 0 em)) 0), (cell (toF (List.getD r2.1 0 em)) 1), (cell (toF (List.getD r2.1 0 em)) 2), (cell (toF (List.getD r2.1 0 em)) 3), (cell (toF (List.getD r2.1 0 em)) 4), (cell (toF (List.getD r2.1 0 em)) 5), (cell (toF (List.getD r2.1 0 em)) 6), (cell (toF (List.getD r2.1 0 em)) 7), (cell (toF (List.getD r2.1 0 em)) 8), (cell (toF (List.getD r2.1 0 em)) 9), (cell (toF (List.getD r2.1 0 em)) 10), (cell (toF (List.getD r2.1 0 em)) 11), (cell (toF (List.getD r2.1 0 em)) 12), (cell (toF (List.getD r2.1 0 em)) 13), (cell (toF (List.getD r2.1 0 em)) 14), (cell (toF (List.getD r2.1 0 em)) 15), (cell (toF (List.getD r2.1 0 em)) 16), (cell (toF (List.getD r2.1 0 em)) 17), (cell (toF (List.getD r2.1 0 em)) 18), (cell (toF (List.getD r2.1 0 em)) 19), (cell (toF (List.getD r2.1 0 em)) 20), (cell (toF (List.getD r2.1 0 em)) 21), (cell (toF (List.getD r2.1 0 em)) 22), (cell (toF (List.getD r2.1 0 em)) 23), (cell (toF (List.getD r2.1 0 em)) 24), (cell (toF (List.getD r2.1 0 em)) 25), (cell (toF (List.getD r2.1 0 em)) 26), (cell (toF (List.getD r2.1 0 em)) 27), (cell (toF (List.getD r2.1 0 em)) 28), (cell (toF (List.getD r2.1 0 em)) 29), (cell (toF (List.getD r2.1 0 em)) 30), (cell (toF (List.getD r2.1 0 em)) 31), (cell (toF (List.getD r2.1 0 em)) 32), (cell (toF (List.getD r2.1 0 em)) 33), (cell (toF (List.getD r2.1 0 em)) 34), (cell (toF (List.getD r2.1 0 em)) 35), (cell (toF (List.getD r2.1 0 em)) 36), (cell (toF (List.getD r2.1 0 em)) 37), (cell (toF (List.getD r2.1 0 em)) 38), (cell (toF (List.getD r2.1 0 em)) 39), (cell (toF (List.getD r2.1 0 em)) 40), (cell (toF (List.getD r2.1 0 em)) 41), (cell (toF (List.getD r2.1 0 em)) 42), (cell (toF (List.getD r2.1 0 em)) 43), (cell (toF (List.getD r2.1 0 em)) 44), (cell (toF (List.getD r2.1 0 em)) 45), (cell (toF (List.getD r2.1 0 em)) 46), (cell (toF (List.getD r2.1 0 em)) 47), (cell (toF (List.getD r2.1 0 em)) 48), (cell (toF (List.getD r2.1 0 em)) 49), (cell (toF (List.getD r2.1 0 em)) 50), (cell (toF (List.getD r2.1 0 em)) 51), (cell (toF (List.getD r2.1 0 em)) 52), (cell (toF (List.getD r2.1 0 em)) 53), (cell (toF (List.getD r2.1 0 em)) 54), (cell (toF (List.getD r2.1 0 em)) 55), (cell (toF (List.getD r2.1 0 em)) 56), (cell (toF (List.getD r2.1 0 em)) 57), (cell (toF (List.getD r2.1 0 em)) 58), (cell (toF (List.getD r2.1 0 em)) 59), (cell (toF (List.getD r2.1 0 em)) 60), (cell (toF (List.getD r2.1 0 em)) 61), (cell (toF (List.getD r2.1 0 em)) 62), (cell (toF (List.getD r2.1 0 em)) 63)]), .fz (.int .i64 (List.length a : Int))]) fun r3 => when (List.isEmpty r3.2 && allF [.fz] r3.1) (when (isBool (toF (List.getD r3.1 0 em))) (ifB (toBool (toF (List.getD r3.1 0 em)))
 (some ([.fz nilp, .fz (.int .i64 9)], []))
 (onR (R N_level_Lattice_fill [.pv 195 true (.fz (.ag [.sl a, (cell (toF (List.getD r2.1 0 em)) 0), (cell (toF (List.getD r2.1 0 em)) 1), (cell (toF (List.getD r2.1 0 em)) 2), (cell (toF (List.getD r2.1 0 em)) 3), (cell (toF (List.getD r2.1 0 em)) 4), (cell (toF (List.getD r2.1 0 em)) 5), (cell (toF (List.getD r2.1 0 em)) 6), (cell (toF (List.getD r2.1 0 em)) 7), (cell (toF (List.getD r2.1 0 em)) 8), (cell (toF (List.getD r2.1 0 em)) 9), (cell (toF (List.getD r2.1 0 em)) 10), (cell (toF (List.getD r2.1 0 em)) 11), (cell (toF (List.getD r2.1 0 em)) 12), (cell (toF (List.getD r2.1 0 em)) 13), (cell (toF (List.getD r2.1 0 em)) 14), (cell (toF (List.getD r2.1 0 em)) 15), (cell (toF (List.getD r2.1 0 em)) 16), (cell (toF (List.getD r2.1 0 em)) 17), (cell (toF (List.getD r2.1 0 em)) 18), (cell (toF (List.getD r2.1 0 em)) 19), (cell (toF (List.getD r2.1 0 em)) 20), (cell (toF (List.getD r2.1 0 em)) 21), (cell (toF (List.getD r2.1 0 em)) 22), (cell (toF (List.getD r2.1 0 em)) 23), (cell (toF (List.getD r2.1 0 em)) 24), (cell (toF (List.getD r2.1 0 em)) 25), (cell (toF (List.getD r2.1 0 em)) 26), (cell (toF (List.getD r2.1 0 em)) 27), (cell (toF (List.getD r2.1 0 em)) 28), (cell (toF (List.getD r2.1 0 em)) 29), (cell (toF (List.getD r2.1 0 em)) 30), (cell (toF (List.getD r2.1 0 em)) 31), (cell (toF (List.getD r2.1 0 em)) 32), (cell (toF (List.getD r2.1 0 em)) 33), (cell (toF (List.getD r2.1 0 em)) 34), (cell (toF (List.getD r2.1 0 em)) 35), (cell (toF (List.getD r2.1 0 em)) 36), (cell (toF (List.getD r2.1 0 em)) 37), (cell (toF (List.getD r2.1 0 em)) 38), (cell (toF (List.getD r2.1 0 em)) 39), (cell (toF (List.getD r2.1 0 em)) 40), (cell (toF (List.getD r2.1 0 em)) 41), (cell (toF (List.getD r2.1 0 em)) 42), (cell (toF (List.getD r2.1 0 em)) 43), (cell (toF (List.getD r2.1 0 em)) 44), (cell (toF (List.getD r2.1 0 em)) 45), (cell (toF (List.getD r2.1 0 em)) 46), (cell (toF (List.getD r2.1 0 em)) 47), (cell (toF (List.getD r2.1 0 em)) 48), (cell (toF (List.getD r2.1 0 em)) 49), (cell (toF (List.getD r2.1 0 em)) 50), (cell (toF (List.getD r2.1 0 em)) 51), (cell (toF (List.getD r2.1 0 em)) 52), (cell (toF (List.getD r2.1 0 em)) 53), (cell (toF (List.getD r2.1 0 em)) 54), (cell (toF (List.getD r2.1 0 em)) 55), (cell (toF (List.getD r2.1 0 em)) 56), (cell (toF (List.getD r2.1 0 em)) 57), (cell (toF (List.getD r2.1 0 em)) 58), (cell (toF (List.getD r2.1 0 em)) 59), (cell (toF (List.getD r2.1 0 em)) 60), (cell (toF (List.getD r2.1 0 em)) 61), (cell (toF (List.getD r2.1 0 em)) 62), (cell (toF (List.getD r2.1 0 em)) 63), .int .i64 0, .int .i64 0, .int .i64 0, .int .i64 0, .int .i64 0, .int .i64 0, .int .i64 0, .int .i64 0, .int .i64 0, .int .i64 0, .int .i64 0, .int .i64 0, .int .i64 0, .int .i64 0, .int .i64 0, .int .i64 0, .int .i64 0, .int .i64 0, .int .i64 0, .int .i64 0, .int .i64 0, .int .i64 0, .int .i64 0, .int .i64 0, .int .i64 0, .int .i64 0, .int .i64 0, .int .i64 0, .int .i64 0, .int .i64 0, .int .i64 0, .int .i64 0, .int .i64 0, .int .i64 0, .int .i64 0, .int .i64 0, .int .i64 0, .int .i64 0, .int .i64 0, .int .i64 0, .int .i64 0, .int .i64 0, .int .i64 0, .int .i64 0, .int .i64 0, .int .i64 0, .int .i64 0, .int .i64 0, .int .i64 0, .int .i64 0, .int .i64 0, .int .i64 0, .int .i64 0, .int .i64 0, .int .i64 0, .int .i64 0, .int .i64 0, .int .i64 0, .int .i64 0, .int .i64 0, .int .i64 0, .int .i64 0, .int .i64 0, .int .i64 0, .int .i64 0, .int .i64 0, .int .i64 0, .int .i64 0, .int .i64 0, .int .i64 0, .int .i64 0, .int .i64 0, .int .i64 0, .int .i64 0, .int .i64 0, .int .i64 0, .int .i64 0, .int .i64 0, .int .i64 0, .int .i64 0, .int .i64 0, .int .i64 0, .int .i64 0, .int .i64 0, .int .i64 0, .int .i64 0, .int .i64 0, .int .i64 0, .int .i64 0, .int .i64 0, .int .i64 0, .int .i64 0, .int .i64 0, .int .i64 0, .int .i64 0, .int .i64 0, .int .i64 0, .int .i64 0, .int .i64 0, .int .i64 0, .int .i64 0, .int .i64 0, .int .i64 0, .int .i64 0, .int .i64 0, .int .i64 0, .int .i64 0, .int .i64 0, .int .i64 0, .int .i64 0, .int .i64 0, .int .i64 0, .int .i64 0, .int .i64 0, .int .i64 0, .int .i64 0, .int .i64 0, .int .i64 0, .int .i64 0, .int .i64 0, .int .i64 0, .int .i64 0, .int .i64 0, .int .i64 0, .int .i64 0, .int .i64 0, .int .i64 0, .int .i64 0, .int .i64 0, .int .i64 0])), .fz (.int .i64 (List.length a : Int))]) fun r4 => when (List.length r4.2 == 1 && (List.all r4.2 LV.isFz && List.length r4.1 == 1)) (when (TV.isF (List.getD r4.1 0 em)) (when (isBool (toF (List.getD r4.1 0 em))) (ifB (!(toBool (toF (List.getD r4.1 0 em))))
 (some ([.fz nilp, .fz (.int .i64 9)], []))
 (some ([.fz (.pt 195 true (LV.toFz (List.getD r4.2 0 LV.nils)) 0), .fz (.int .i64 0)], []))))))))))))))))))) := by kernel_rfl
/-! keyhole/keyholeref01.Sort -/
def C_ref01_Sort : ACode := codeOf 43 Try.f43
def A_ref01_Sort : AFunc := ⟨1, [(.cell 2 3 true, .fz)], C_ref01_Sort, none⟩
theorem E_ref01_Sort (R : Orc) (k : Nat) (w : Bool) (a : Int) : callL R k w A_ref01_Sort [.fz (.int .i64 a)] = ifB ((Int.tmod (IntKind.wrap .i64 ((Int.tmod a 6) + 6)) 6) == 0)
 (some ([.fz (.ag [(.sl [(.str (⟨#[108, 111, 119]⟩ : ByteArray)), (.str (⟨#[104, 105, 103, 104]⟩ : ByteArray))]), (.sl [(.ag [.int .i64 0, .int .i64 1])]), .sl []])], []))
 (ifB ((Int.tmod (IntKind.wrap .i64 ((Int.tmod a 6) + 6)) 6) == 1)
 (some ([.fz (.ag [(.sl [(.str (⟨#[108, 111, 119]⟩ : ByteArray)), (.str (⟨#[108, 101, 102, 116]⟩ : ByteArray)), (.str (⟨#[114, 105, 103, 104, 116]⟩ : ByteArray)), (.str (⟨#[104, 105, 103, 104]⟩ : ByteArray))]), (.sl [(.ag [.int .i64 0, .int .i64 1]), (.ag [.int .i64 0, .int .i64 2]), (.ag [.int .i64 1, .int .i64 3]), (.ag [.int .i64 2, .int .i64 3])]), .sl []])], []))
 (ifB ((Int.tmod (IntKind.wrap .i64 ((Int.tmod a 6) + 6)) 6) == 2)
 (some ([.fz (.ag [(.sl [(.str (⟨#[97]⟩ : ByteArray)), (.str (⟨#[98]⟩ : ByteArray)), (.str (⟨#[99]⟩ : ByteArray))]), (.sl [(.ag [.int .i64 0, .int .i64 1]), (.ag [.int .i64 1, .int .i64 2])]), .sl []])], []))
 (ifB ((Int.tmod (IntKind.wrap .i64 ((Int.tmod a 6) + 6)) 6) == 3)
 (some ([.fz (.ag [(.sl [(.str (⟨#[111, 110, 101]⟩ : ByteArray))]), .sl [], .sl []])], []))
 (ifB ((Int.tmod (IntKind.wrap .i64 ((Int.tmod a 6) + 6)) 6) == 4)
 (some ([.fz (.ag [(.sl [(.str (⟨#[116, 111, 112]⟩ : ByteArray)), (.str (⟨#[120]⟩ : ByteArray)), (.str (⟨#[121]⟩ : ByteArray)), (.str (⟨#[122]⟩ : ByteArray)), (.str (⟨#[98, 111, 116]⟩ : ByteArray))]), (.sl [(.ag [.int .i64 4, .int .i64 1]), (.ag [.int .i64 4, .int .i64 2]), (.ag [.int .i64 4, .int .i64 3]), (.ag [.int .i64 1, .int .i64 0]), (.ag [.int .i64 2, .int .i64 0]), (.ag [.int .i64 3, .int .i64 0])]), .sl []])], []))
 (some ([.fz (.ag [(.sl [(.str (⟨#[111]⟩ : ByteArray)), (.str (⟨#[112]⟩ : ByteArray)), (.str (⟨#[113]⟩ : ByteArray)), (.str (⟨#[114]⟩ : ByteArray)), (.str (⟨#[112, 113]⟩ : ByteArray)), (.str (⟨#[112, 114]⟩ : ByteArray)), (.str (⟨#[113, 114]⟩ : ByteArray)), (.str (⟨#[97, 108, 108]⟩ : ByteArray))]), (.sl [(.ag [.int .i64 0, .int .i64 1]), (.ag [.int .i64 0, .int .i64 2]), (.ag [.int .i64 0, .int .i64 3]), (.ag [.int .i64 1, .int .i64 4]), (.ag [.int .i64 2, .int .i64 4]), (.ag [.int .i64 1, .int .i64 5]), (.ag [.int .i64 3, .int .i64 5]), (.ag [.int .i64 2, .int .i64 6]), (.ag [.int .i64 3, .int .i64 6]), (.ag [.int .i64 4, .int .i64 7]), (.ag [.int .i64 5, .int .i64 7]), (.ag [.int .i64 6, .int .i64 7])]), .sl []])], [])))))) := by kernel_rfl
/-! keyhole/keyholeref01.Table -/
def C_ref01_Table : ACode := codeOf 44 Try.f44
def A_ref01_Table_b1 : ACode := C_ref01_Table.at [1, 1, 1, 0, 1, 0, 0, 1, 0, 0, 1, 1, 0, 1, 0, 0, 1, 0, 0, 1, 0, 0]
def A_ref01_Table_s1 : ACode := C_ref01_Table.at [1, 1, 1, 0, 1, 0, 0, 1, 0, 0, 1, 1, 0, 1, 0, 0, 1, 1]
def A_ref01_Table_b2 : ACode := C_ref01_Table.at [1, 1, 1, 0, 1, 0, 0, 1, 0, 0, 1, 1, 0, 1, 0, 0]
def A_ref01_Table_s2 : ACode := C_ref01_Table.at [1, 1, 1, 0, 1, 0, 0, 1, 0, 0, 1, 1, 1]
def A_ref01_Table_s3 : ACode := C_ref01_Table.at [1, 1, 1, 0, 1, 0, 0, 1, 1]
def A_ref01_Table_b3 : ACode := C_ref01_Table.at [1, 1, 1, 0, 1, 0, 0]
def A_ref01_Table_s4 : ACode := C_ref01_Table.at [1, 1, 1, 1]
def A_ref01_Table : AFunc := ⟨1, [(.tmp 2, .fz)], C_ref01_Table, none⟩
def K_ref01_Table_3 (R : Orc) (k : Nat) (w : Bool) : AExit → St → Option Ans := (kBlk 0 (kSeq R k w [] A_ref01_Table_s4 (kFin R [(.tmp 2, .fz)] [])))
def L_ref01_Table_3_0 (R : Orc) (k : Nat) (w : Bool) (n : Nat) (a b : Int) (c d e : List FV) := loopL R k w [] [1, 3, 4, 5] [4] A_ref01_Table_b3 n ⟨[(1, .ptr 4096 0 0), (3, .fz (.int .i64 a)), (4, .nils), (5, .fz (.int .i64 b))], [(4095, .dead), (4096, .var 3 true (.fz (.ag [.sl c, .sl d, .sl e])))]⟩
def K_ref01_Table_2 (R : Orc) (k : Nat) (w : Bool) (n : Nat) : AExit → St → Option (AExit × St) := (kBlk 2 (kSeq R k w [] A_ref01_Table_s2 (kBlk 1 (kSeq R k w [] A_ref01_Table_s3 (kLoop R k w [] [1, 3, 4, 5] [4] A_ref01_Table_b3 n)))))
def L_ref01_Table_2_0 (R : Orc) (k : Nat) (w : Bool) (n : Nat) (a b c : Int) (d e f g : List FV) := loopL R k w [] [1, 3, 4, 5, 6, 7] [1, 3, 4, 5, 6] A_ref01_Table_b2 n ⟨[(1, .ptr 4096 0 0), (3, .fz (.int .i64 a)), (4, .nils), (5, .fz (.int .i64 b)), (6, .rw 4097), (7, .fz (.int .i64 c))], [(4095, .dead), (4096, .var 3 true (.fz (.ag [.sl d, .sl e, .sl f]))), (4097, .row 1 false g)]⟩
def X_ref01_Table_3_0 : St := ⟨[(4, .nils)], [(4095, .dead)]⟩
def K_ref01_Table_1 (R : Orc) (k : Nat) (w : Bool) (n : Nat) : AExit → St → Option (AExit × St) := (kBlk 4 (kBlk 3 (kSeq R k w [] A_ref01_Table_s1 (kLoop R k w [] [1, 3, 4, 5, 6, 7] [1, 3, 4, 5, 6] A_ref01_Table_b2 n))))
def L_ref01_Table_1_0 (R : Orc) (k : Nat) (w : Bool) (n : Nat) (a b c d : Int) (e f g h : List FV) := loopL R k w [] [1, 3, 4, 5, 6, 7, 8] [1, 3, 4, 5, 6, 7] A_ref01_Table_b1 n ⟨[(1, .ptr 4096 0 0), (3, .fz (.int .i64 a)), (4, .nils), (5, .fz (.int .i64 b)), (6, .rw 4097), (7, .fz (.int .i64 c)), (8, .fz (.int .i64 d))], [(4095, .dead), (4096, .var 3 true (.fz (.ag [.sl e, .sl f, .sl g]))), (4097, .row 1 false h)]⟩
def X_ref01_Table_2_0 (a b : Int) (c d e f : List FV) : St := ⟨[(1, .ptr 4096 0 0), (3, .fz (.int .i64 a)), (4, .nils), (5, .fz (.int .i64 b)), (6, .rw 4097)], [(4095, .dead), (4096, .var 3 true (.fz (.ag [.sl c, .sl d, .sl e]))), (4097, .row 1 false f)]⟩
def X_ref01_Table_1_0 (a b c : Int) (d e f g : List FV) : St := ⟨[(1, .ptr 4096 0 0), (3, .fz (.int .i64 a)), (4, .nils), (5, .fz (.int .i64 b)), (6, .rw 4097), (7, .fz (.int .i64 c))], [(4095, .dead), (4096, .var 3 true (.fz (.ag [.sl d, .sl e, .sl f]))), (4097, .row 1 false g)]⟩
def L_ref01_Table_3_1 (R : Orc) (k : Nat) (w : Bool) (n : Nat) (a b : Int) (c d e f : List FV) := loopL R k w [] [1, 3, 4, 5] [4] A_ref01_Table_b3 n ⟨[(1, .ptr 4096 0 0), (3, .fz (.int .i64 a)), (4, .rw 4097), (5, .fz (.int .i64 b))], [(4095, .dead), (4096, .var 3 true (.fz (.ag [.sl c, .sl d, .sl e]))), (4097, .row 1 false f)]⟩
def L_ref01_Table_2_1 (R : Orc) (k : Nat) (w : Bool) (n : Nat) (a b c : Int) (d e f g h : List FV) := loopL R k w [] [1, 3, 4, 5, 6, 7] [1, 3, 4, 5, 6] A_ref01_Table_b2 n ⟨[(1, .ptr 4096 0 0), (3, .fz (.int .i64 a)), (4, .rw 4097), (5, .fz (.int .i64 b)), (6, .rw 4098), (7, .fz (.int .i64 c))], [(4095, .dead), (4096, .var 3 true (.fz (.ag [.sl d, .sl e, .sl f]))), (4097, .row 1 false g), (4098, .row 1 false h)]⟩
def X_ref01_Table_3_1 (a : List FV) : St := ⟨[(4, .rw 4096)], [(4095, .dead), (4096, .row 1 false a)]⟩
def L_ref01_Table_1_1 (R : Orc) (k : Nat) (w : Bool) (n : Nat) (a b c d : Int) (e f g h i : List FV) := loopL R k w [] [1, 3, 4, 5, 6, 7, 8] [1, 3, 4, 5, 6, 7] A_ref01_Table_b1 n ⟨[(1, .ptr 4096 0 0), (3, .fz (.int .i64 a)), (4, .rw 4097), (5, .fz (.int .i64 b)), (6, .rw 4098), (7, .fz (.int .i64 c)), (8, .fz (.int .i64 d))], [(4095, .dead), (4096, .var 3 true (.fz (.ag [.sl e, .sl f, .sl g]))), (4097, .row 1 false h), (4098, .row 1 false i)]⟩
def X_ref01_Table_2_1 (a b : Int) (c d e f g : List FV) : St := ⟨[(1, .ptr 4096 0 0), (3, .fz (.int .i64 a)), (4, .rw 4097), (5, .fz (.int .i64 b)), (6, .rw 4098)], [(4095, .dead), (4096, .var 3 true (.fz (.ag [.sl c, .sl d, .sl e]))), (4097, .row 1 false f), (4098, .row 1 false g)]⟩
def X_ref01_Table_1_1 (a b c : Int) (d e f g h : List FV) : St := ⟨[(1, .ptr 4096 0 0), (3, .fz (.int .i64 a)), (4, .rw 4097), (5, .fz (.int .i64 b)), (6, .rw 4098), (7, .fz (.int .i64 c))], [(4095, .dead), (4096, .var 3 true (.fz (.ag [.sl d, .sl e, .sl f]))), (4097, .row 1 false g), (4098, .row 1 false h)]⟩
theorem E_ref01_Table (R : Orc) (k : Nat) (w : Bool) (a b c : List FV) : callL R k w A_ref01_Table [.fz (.ag [.sl a, .sl b, .sl c])] = onL (L_ref01_Table_3_0 R k w k (List.length a : Int) 0 a b c) (K_ref01_Table_3 R k w) := by kernel_rfl
theorem L_ref01_Table_3_0_eq (R : Orc) (k : Nat) (w : Bool) (n : Nat) (a b : Int) (c d e : List FV) : L_ref01_Table_3_0 R k w (n + 1) a b c d e = ifB (decide (b < a))
 (when (decide (0 ≤ a) && (decide (a ≤ a) && (decide (1 * a ≤ roomy) && decide (a ≤ roomy)))) (when ((decide (0 ≤ b)) && (decide (b < (List.length (List.replicate (Int.toNat a) (FV.bool false)) : Int)))) (when (Nat.blt (Int.toNat b) (List.length (List.replicate (Int.toNat a) (FV.bool false)))) (onL (L_ref01_Table_2_0 R k w k a b 0 c d e (List.set (List.replicate (Int.toNat a) (FV.bool false)) (Int.toNat b) (FV.bool true))) (K_ref01_Table_2 R k w n)))))
 (some ((.exit 0), X_ref01_Table_3_0)) := by kernel_rfl
theorem L_ref01_Table_2_0_eq (R : Orc) (k : Nat) (w : Bool) (n : Nat) (a b c : Int) (d e f g : List FV) : L_ref01_Table_2_0 R k w (n + 1) a b c d e f g = ifB (decide (c < a))
 (onL (L_ref01_Table_1_0 R k w k a b c 0 d e f g) (K_ref01_Table_1 R k w n))
 (some ((.exit 2), X_ref01_Table_2_0 a b d e f g)) := by kernel_rfl
theorem X_ref01_Table_3_0_eq (R : Orc) (k : Nat) (w : Bool) : K_ref01_Table_3 R k w (.exit 0) (X_ref01_Table_3_0) = some ([.fz (.sl [])], []) := by kernel_rfl
theorem L_ref01_Table_1_0_eq (R : Orc) (k : Nat) (w : Bool) (n : Nat) (a b c d : Int) (e f g h : List FV) : L_ref01_Table_1_0 R k w (n + 1) a b c d e f g h = ifB (decide (d < (List.length f : Int)))
 (when ((decide (0 ≤ d)) && (decide (d < (List.length f : Int)))) (when (fits 2 true (List.getD f (Int.toNat d) nilp)) (when (isAg 2 (List.getD f (Int.toNat d) nilp)) (when (isInt .i64 (cell (List.getD f (Int.toNat d) nilp) 0)) (when ((decide (0 ≤ (toInt (cell (List.getD f (Int.toNat d) nilp) 0)))) && (decide ((toInt (cell (List.getD f (Int.toNat d) nilp) 0)) < (List.length h : Int)))) (when (Nat.blt (Int.toNat (toInt (cell (List.getD f (Int.toNat d) nilp) 0))) (List.length h)) (when (isBool (List.getD h (Int.toNat (toInt (cell (List.getD f (Int.toNat d) nilp) 0))) nilp)) (ifB (toBool (List.getD h (Int.toNat (toInt (cell (List.getD f (Int.toNat d) nilp) 0))) nilp))
 (when ((decide (0 ≤ d)) && (decide (d < (List.length f : Int)))) (when (fits 2 true (List.getD f (Int.toNat d) nilp)) (when (isAg 2 (List.getD f (Int.toNat d) nilp)) (when (isInt .i64 (cell (List.getD f (Int.toNat d) nilp) 1)) (when ((decide (0 ≤ (toInt (cell (List.getD f (Int.toNat d) nilp) 1)))) && (decide ((toInt (cell (List.getD f (Int.toNat d) nilp) 1)) < (List.length h : Int)))) (when (Nat.blt (Int.toNat (toInt (cell (List.getD f (Int.toNat d) nilp) 1))) (List.length h)) (L_ref01_Table_1_0 R k w n a b c (IntKind.wrap .i64 (d + 1)) e f g (List.set h (Int.toNat (toInt (cell (List.getD f (Int.toNat d) nilp) 1))) (.bool true)))))))))
 (L_ref01_Table_1_0 R k w n a b c (IntKind.wrap .i64 (d + 1)) e f g h)))))))))
 (some ((.exit 4), X_ref01_Table_1_0 a b c e f g h)) := by kernel_rfl
theorem X_ref01_Table_2_0_eq (R : Orc) (k : Nat) (w : Bool) (n : Nat) (a b : Int) (c d e f : List FV) : K_ref01_Table_2 R k w n (.exit 2) (X_ref01_Table_2_0 a b c d e f) = when (decide (((0 : Nat) + List.length [FV.sl f]) * 24 ≤ roomy) && decide ((0 : Nat) + List.length [FV.sl f] ≤ roomy)) (L_ref01_Table_3_1 R k w n a (IntKind.wrap .i64 (b + 1)) c d e [.sl f]) := by kernel_rfl
theorem X_ref01_Table_1_0_eq (R : Orc) (k : Nat) (w : Bool) (n : Nat) (a b c : Int) (d e f g : List FV) : K_ref01_Table_1 R k w n (.exit 4) (X_ref01_Table_1_0 a b c d e f g) = L_ref01_Table_2_0 R k w n a b (IntKind.wrap .i64 (c + 1)) d e f g := by kernel_rfl
theorem L_ref01_Table_3_1_eq (R : Orc) (k : Nat) (w : Bool) (n : Nat) (a b : Int) (c d e f : List FV) : L_ref01_Table_3_1 R k w (n + 1) a b c d e f = ifB (decide (b < a))
 (when (decide (0 ≤ a) && (decide (a ≤ a) && (decide (1 * a ≤ roomy) && decide (a ≤ roomy)))) (when ((decide (0 ≤ b)) && (decide (b < (List.length (List.replicate (Int.toNat a) (FV.bool false)) : Int)))) (when (Nat.blt (Int.toNat b) (List.length (List.replicate (Int.toNat a) (FV.bool false)))) (onL (L_ref01_Table_2_1 R k w k a b 0 c d e f (List.set (List.replicate (Int.toNat a) (FV.bool false)) (Int.toNat b) (FV.bool true))) (K_ref01_Table_2 R k w n)))))
 (some ((.exit 0), X_ref01_Table_3_1 f)) := by kernel_rfl
theorem L_ref01_Table_2_1_eq (R : Orc) (k : Nat) (w : Bool) (n : Nat) (a b c : Int) (d e f g h : List FV) : L_ref01_Table_2_1 R k w (n + 1) a b c d e f g h = ifB (decide (c < a))
 (onL (L_ref01_Table_1_1 R k w k a b c 0 d e f g h) (K_ref01_Table_1 R k w n))
 (some ((.exit 2), X_ref01_Table_2_1 a b d e f g h)) := by kernel_rfl
theorem X_ref01_Table_3_1_eq (R : Orc) (k : Nat) (w : Bool) (a : List FV) : K_ref01_Table_3 R k w (.exit 0) (X_ref01_Table_3_1 a) = some ([.fz (.sl a)], []) := by kernel_rfl
theorem L_ref01_Table_1_1_eq (R : Orc) (k : Nat) (w : Bool) (n : Nat) (a b c d : Int) (e f g h i : List FV) : L_ref01_Table_1_1 R k w (n + 1) a b c d e f g h i = ifB (decide (d < (List.length f : Int)))
 (when ((decide (0 ≤ d)) && (decide (d < (List.length f : Int)))) (when (fits 2 true (List.getD f (Int.toNat d) nilp)) (when (isAg 2 (List.getD f (Int.toNat d) nilp)) (when (isInt .i64 (cell (List.getD f (Int.toNat d) nilp) 0)) (when ((decide (0 ≤ (toInt (cell (List.getD f (Int.toNat d) nilp) 0)))) && (decide ((toInt (cell (List.getD f (Int.toNat d) nilp) 0)) < (List.length i : Int)))) (when (Nat.blt (Int.toNat (toInt (cell (List.getD f (Int.toNat d) nilp) 0))) (List.length i)) (when (isBool (List.getD i (Int.toNat (toInt (cell (List.getD f (Int.toNat d) nilp) 0))) nilp)) (ifB (toBool (List.getD i (Int.toNat (toInt (cell (List.getD f (Int.toNat d) nilp) 0))) nilp))
 (when ((decide (0 ≤ d)) && (decide (d < (List.length f : Int)))) (when (fits 2 true (List.getD f (Int.toNat d) nilp)) (when (isAg 2 (List.getD f (Int.toNat d) nilp)) (when (isInt .i64 (cell (List.getD f (Int.toNat d) nilp) 1)) (when ((decide (0 ≤ (toInt (cell (List.getD f (Int.toNat d) nilp) 1)))) && (decide ((toInt (cell (List.getD f (Int.toNat d) nilp) 1)) < (List.length i : Int)))) (when (Nat.blt (Int.toNat (toInt (cell (List.getD f (Int.toNat d) nilp) 1))) (List.length i)) (L_ref01_Table_1_1 R k w n a b c (IntKind.wrap .i64 (d + 1)) e f g h (List.set i (Int.toNat (toInt (cell (List.getD f (Int.toNat d) nilp) 1))) (.bool true)))))))))
 (L_ref01_Table_1_1 R k w n a b c (IntKind.wrap .i64 (d + 1)) e f g h i)))))))))
 (some ((.exit 4), X_ref01_Table_1_1 a b c e f g h i)) := by kernel_rfl
theorem X_ref01_Table_2_1_eq (R : Orc) (k : Nat) (w : Bool) (n : Nat) (a b : Int) (c d e f g : List FV) : K_ref01_Table_2 R k w n (.exit 2) (X_ref01_Table_2_1 a b c d e f g) = when (decide ((List.length f + List.length [FV.sl g]) * 24 ≤ roomy) && decide (List.length f + List.length [FV.sl g] ≤ roomy)) (L_ref01_Table_3_1 R k w n a (IntKind.wrap .i64 (b + 1)) c d e (f ++ [FV.sl g])) := by kernel_rfl
theorem X_ref01_Table_1_1_eq (R : Orc) (k : Nat) (w : Bool) (n : Nat) (a b c : Int) (d e f g h : List FV) : K_ref01_Table_1 R k w n (.exit 4) (X_ref01_Table_1_1 a b c d e f g h) = L_ref01_Table_2_1 R k w n a b (IntKind.wrap .i64 (c + 1)) d e f g h := by kernel_rfl
/-! keyhole/ltype.is -/
def C_ltype_is : ACode := codeOf 45 Try.f45
def A_ltype_is_b1 : ACode := C_ltype_is.at [1, 1, 0, 0, 1, 0, 0]
def A_ltype_is_s1 : ACode := C_ltype_is.at [1, 1, 0, 1]
def A_ltype_is_j2 : ACode := C_ltype_is.at [1, 1, 0]
def A_ltype_is : AFunc := ⟨3, [(.tmp 6, .fz)], C_ltype_is, none⟩
def J_ltype_is_2_0 (R : Orc) (k : Nat) (w : Bool) (a : FV) (b c : Int) (d e : List FV) (f : Int) := execL R k w [] A_ltype_is_j2 Ans ⟨[(0, .fz (.pt 195 true a 0)), (2, .fz (.int .i64 b)), (4, .ptr 4096 0 0)], [(4095, .dead), (4096, .var 4 true (.fz (.ag [.int .i64 c, .sl d, .sl e, .int .i64 f])))]⟩ (kFin R [(.tmp 6, .fz)] [])
def K_ltype_is_1 (R : Orc) (k : Nat) (w : Bool) : AExit → St → Option Ans := (kBlk 0 (kSeq R k w [] A_ltype_is_s1 (kFin R [(.tmp 6, .fz)] [])))
def L_ltype_is_1_0 (R : Orc) (k : Nat) (w : Bool) (n : Nat) (a : FV) (b : Int) (c : List FV) (d e f : Int) (g h : List FV) (i : Int) := loopL R k w [] [0, 2, 4, 35, 36, 37] [6] A_ltype_is_b1 n ⟨[(0, .fz (.pt 195 true a 0)), (2, .fz (.int .i64 b)), (4, .ptr 4096 0 0), (35, .fz (.sl c)), (36, .fz (.int .i64 d)), (37, .fz (.int .i64 e))], [(4095, .dead), (4096, .var 4 true (.fz (.ag [.int .i64 f, .sl g, .sl h, .int .i64 i])))]⟩
def X_ltype_is_1_0 (a : Bool) : St := ⟨[(6, .fz (.bool a))], [(4095, .dead)]⟩
def X_ltype_is_1_1 : St := ⟨[], [(4095, .dead)]⟩
theorem E_ltype_is (R : Orc) (k : Nat) (w : Bool) (a : FV) (b : Int) (c d : List FV) (e f : Int) : callL R k w A_ltype_is [.fz (.pt 195 true a 0), .fz (.ag [.int .i64 b, .sl c, .sl d, .int .i64 e]), .fz (.int .i64 f)] = ifB (decide (f > 3))
 (some ([.fz (.bool false)], []))
 (onR (R N_level_Lattice_Is [.fz (.pt 195 true a 0), .fz (.int .i64 b)]) fun r0 => when (List.isEmpty r0.2 && allF [.fz] r0.1) (when (isBool (toF (List.getD r0.1 0 em))) (ifB (!(toBool (toF (List.getD r0.1 0 em))))
 (some ([.fz (.bool false)], []))
 (onR (R N_level_Lattice_Is [.fz (.pt 195 true a 0), .fz (.int .i64 e)]) fun r1 => when (List.isEmpty r1.2 && allF [.fz] r1.1) (when (isBool (toF (List.getD r1.1 0 em))) (ifB (!(toBool (toF (List.getD r1.1 0 em))))
 (some ([.fz (.bool false)], []))
 (ifB ((List.length c : Int) != (List.length d : Int))
 (some ([.fz (.bool false)], []))
 (jump w (J_ltype_is_2_0 R k w a f b c d e))))))))) := by kernel_rfl
theorem J_ltype_is_2_0_eq (R : Orc) (k : Nat) (w : Bool) (a : FV) (b c : Int) (d e : List FV) (f : Int) : J_ltype_is_2_0 R k w a b c d e f = onL (L_ltype_is_1_0 R k w k a b e (List.length e : Int) 0 c d e f) (K_ltype_is_1 R k w) := by kernel_rfl
theorem L_ltype_is_1_0_eq (R : Orc) (k : Nat) (w : Bool) (n : Nat) (a : FV) (b : Int) (c : List FV) (d e f : Int) (g h : List FV) (i : Int) : L_ltype_is_1_0 R k w (n + 1) a b c d e f g h i = ifB (decide (e < d))
 (when ((decide (0 ≤ e)) && (decide (e < (List.length c : Int)))) (when (fits 4 true (List.getD c (Int.toNat e) nilp)) (when (fits 4 true (List.getD c (Int.toNat e) nilp)) (ifB (decide (e > 0))
 (when ((decide (0 ≤ e)) && (decide (e < (List.length g : Int)))) (when (fits 1 false (List.getD g (Int.toNat e) nilp)) (when (isStr (List.getD g (Int.toNat e) nilp)) (when ((decide (0 ≤ (IntKind.wrap .i64 (e - 1)))) && (decide ((IntKind.wrap .i64 (e - 1)) < (List.length g : Int)))) (when (fits 1 false (List.getD g (Int.toNat (IntKind.wrap .i64 (e - 1))) nilp)) (when (isStr (List.getD g (Int.toNat (IntKind.wrap .i64 (e - 1))) nilp)) (ifB (Op.bytesLess (ByteArray.toList (toStr (List.getD g (Int.toNat e) nilp))) (ByteArray.toList (toStr (List.getD g (Int.toNat (IntKind.wrap .i64 (e - 1))) nilp))) || ByteArray.toList (toStr (List.getD g (Int.toNat e) nilp)) == ByteArray.toList (toStr (List.getD g (Int.toNat (IntKind.wrap .i64 (e - 1))) nilp)))
 (some (.ret, X_ltype_is_1_0 false))
 (onR (R N_ltype_is [.fz (.pt 195 true a 0), .fz (List.getD c (Int.toNat e) nilp), .fz (.int .i64 (IntKind.wrap .i64 (b + 1)))]) fun r2 => when (List.isEmpty r2.2 && allF [.fz] r2.1) (when (isBool (toF (List.getD r2.1 0 em))) (ifB (!(toBool (toF (List.getD r2.1 0 em))))
 (some (.ret, X_ltype_is_1_0 false))
 (L_ltype_is_1_0 R k w n a b c d (IntKind.wrap .i64 (e + 1)) f g h i)))))))))))
 (onR (R N_ltype_is [.fz (.pt 195 true a 0), .fz (List.getD c (Int.toNat e) nilp), .fz (.int .i64 (IntKind.wrap .i64 (b + 1)))]) fun r3 => when (List.isEmpty r3.2 && allF [.fz] r3.1) (when (isBool (toF (List.getD r3.1 0 em))) (ifB (!(toBool (toF (List.getD r3.1 0 em))))
 (some (.ret, X_ltype_is_1_0 false))
 (L_ltype_is_1_0 R k w n a b c d (IntKind.wrap .i64 (e + 1)) f g h i))))))))
 (some ((.exit 0), X_ltype_is_1_1)) := by kernel_rfl
theorem X_ltype_is_1_0_eq (R : Orc) (k : Nat) (w a : Bool) : K_ltype_is_1 R k w .ret (X_ltype_is_1_0 a) = some ([.fz (.bool a)], []) := by kernel_rfl
theorem X_ltype_is_1_1_eq (R : Orc) (k : Nat) (w : Bool) : K_ltype_is_1 R k w (.exit 0) (X_ltype_is_1_1) = some ([.fz (.bool true)], []) := by kernel_rfl
/-! keyhole/keyholeref09.Size -/
def C_ref09_Size : ACode := codeOf 46 Try.f46
def A_ref09_Size_b1 : ACode := C_ref09_Size.at [1, 1, 1, 0, 1, 0, 0]
def A_ref09_Size_s1 : ACode := C_ref09_Size.at [1, 1, 1, 1]
def A_ref09_Size : AFunc := ⟨3, [(.tmp 6, .fz)], C_ref09_Size, none⟩
def K_ref09_Size_1 (R : Orc) (k : Nat) (w : Bool) : AExit → St → Option Ans := (kBlk 0 (kSeq R k w [] A_ref09_Size_s1 (kFin R [(.tmp 6, .fz)] [])))
def L_ref09_Size_1_0 (R : Orc) (k : Nat) (w : Bool) (n : Nat) (a b c d e f g h : Int) (i : ByteArray) (j l : List FV) := loopL R k w [] [1, 2, 3, 7] [1] A_ref09_Size_b1 n ⟨[(1, .fz (.int .i64 a)), (2, .fz (.int .i64 b)), (3, .ptr 4096 0 0), (7, .fz (.int .i64 c))], [(4095, .dead), (4096, .var 8 true (.fz (.ag [.int .i64 d, .int .i64 e, .int .i64 f, .int .i64 g, .int .i64 h, .str i, .sl j, .sl l])))]⟩
def X_ref09_Size_1_0 (a : Int) : St := ⟨[(1, .fz (.int .i64 a))], [(4095, .dead)]⟩
theorem E_ref09_Size (R : Orc) (k : Nat) (w : Bool) (a b c d e : Int) (f : ByteArray) (g h : List FV) (i j : Int) : callL R k w A_ref09_Size [.fz (.ag [.int .i64 a, .int .i64 b, .int .i64 c, .int .i64 d, .int .i64 e, .str f, .sl g, .sl h]), .fz (.int .i64 i), .fz (.int .i64 j)] = ifB (decide (i ≥ j))
 (some ([.fz (.int .i64 i)], []))
 (onL (L_ref09_Size_1_0 R k w k (IntKind.wrap .i64 (i + 1)) j 0 a b c d e f g h) (K_ref09_Size_1 R k w)) := by kernel_rfl
theorem L_ref09_Size_1_0_eq (R : Orc) (k : Nat) (w : Bool) (n : Nat) (a b c d e f g h : Int) (i : ByteArray) (j l : List FV) : L_ref09_Size_1_0 R k w (n + 1) a b c d e f g h i j l = ifB (decide (c < (List.length j : Int)))
 (when ((decide (0 ≤ c)) && (decide (c < (List.length j : Int)))) (when (fits 8 true (List.getD j (Int.toNat c) nilp)) (onR (R N_ref09_Size [.fz (List.getD j (Int.toNat c) nilp), .fz (.int .i64 a), .fz (.int .i64 b)]) fun r0 => when (List.isEmpty r0.2 && allF [.fz] r0.1) (when (isInt .i64 (toF (List.getD r0.1 0 em))) (L_ref09_Size_1_0 R k w n (toInt (toF (List.getD r0.1 0 em))) b (IntKind.wrap .i64 (c + 1)) d e f g h i j l)))))
 (some ((.exit 0), X_ref09_Size_1_0 a)) := by kernel_rfl
theorem X_ref09_Size_1_0_eq (R : Orc) (k : Nat) (w : Bool) (a : Int) : K_ref09_Size_1 R k w (.exit 0) (X_ref09_Size_1_0 a) = some ([.fz (.int .i64 a)], []) := by kernel_rfl
/-! keyhole/keyholeref09.Flat -/
def C_ref09_Flat : ACode := codeOf 47 Try.f47
def A_ref09_Flat_b1 : ACode := C_ref09_Flat.at [1, 1, 0, 1, 0, 0]
def A_ref09_Flat_s1 : ACode := C_ref09_Flat.at [1, 1, 1]
def A_ref09_Flat : AFunc := ⟨2, [(.tmp 4, .fz)], C_ref09_Flat, none⟩
def K_ref09_Flat_1 (R : Orc) (k : Nat) (w : Bool) : AExit → St → Option Ans := (kBlk 0 (kSeq R k w [] A_ref09_Flat_s1 (kFin R [(.tmp 4, .fz)] [])))
def L_ref09_Flat_1_0 (R : Orc) (k : Nat) (w : Bool) (n : Nat) (a b c d e f g : Int) (h : ByteArray) (i j : List FV) := loopL R k w [] [1, 2, 5] [4] A_ref09_Flat_b1 n ⟨[(1, .fz (.int .i64 a)), (2, .ptr 4096 0 0), (5, .fz (.int .i64 b))], [(4095, .dead), (4096, .var 8 true (.fz (.ag [.int .i64 c, .int .i64 d, .int .i64 e, .int .i64 f, .int .i64 g, .str h, .sl i, .sl j])))]⟩
def X_ref09_Flat_1_0 (a : Bool) : St := ⟨[(4, .fz (.bool a))], [(4095, .dead)]⟩
def X_ref09_Flat_1_1 : St := ⟨[], [(4095, .dead)]⟩
theorem E_ref09_Flat (R : Orc) (k : Nat) (w : Bool) (a b c d e : Int) (f : ByteArray) (g h : List FV) (i : Int) : callL R k w A_ref09_Flat [.fz (.ag [.int .i64 a, .int .i64 b, .int .i64 c, .int .i64 d, .int .i64 e, .str f, .sl g, .sl h]), .fz (.int .i64 i)] = ifB (decide (i < 0))
 (some ([.fz (.bool false)], []))
 (onL (L_ref09_Flat_1_0 R k w k i 0 a b c d e f g h) (K_ref09_Flat_1 R k w)) := by kernel_rfl
theorem L_ref09_Flat_1_0_eq (R : Orc) (k : Nat) (w : Bool) (n : Nat) (a b c d e f g : Int) (h : ByteArray) (i j : List FV) : L_ref09_Flat_1_0 R k w (n + 1) a b c d e f g h i j = ifB (decide (b < (List.length i : Int)))
 (when ((decide (0 ≤ b)) && (decide (b < (List.length i : Int)))) (when (fits 8 true (List.getD i (Int.toNat b) nilp)) (onR (R N_ref09_Flat [.fz (List.getD i (Int.toNat b) nilp), .fz (.int .i64 (IntKind.wrap .i64 (a - 1)))]) fun r0 => when (List.isEmpty r0.2 && allF [.fz] r0.1) (when (isBool (toF (List.getD r0.1 0 em))) (ifB (!(toBool (toF (List.getD r0.1 0 em))))
 (some (.ret, X_ref09_Flat_1_0 false))
 (L_ref09_Flat_1_0 R k w n a (IntKind.wrap .i64 (b + 1)) c d e f g h i j))))))
 (some ((.exit 0), X_ref09_Flat_1_1)) := by kernel_rfl
theorem X_ref09_Flat_1_0_eq (R : Orc) (k : Nat) (w a : Bool) : K_ref09_Flat_1 R k w .ret (X_ref09_Flat_1_0 a) = some ([.fz (.bool a)], []) := by kernel_rfl
theorem X_ref09_Flat_1_1_eq (R : Orc) (k : Nat) (w : Bool) : K_ref09_Flat_1 R k w (.exit 0) (X_ref09_Flat_1_1) = some ([.fz (.bool true)], []) := by kernel_rfl
/-! keyhole/keyholeref09.Labels -/
def C_ref09_Labels : ACode := codeOf 48 Try.f48
def A_ref09_Labels_b1 : ACode := C_ref09_Labels.at [1, 1, 0, 0, 1, 0, 0]
def A_ref09_Labels_s1 : ACode := C_ref09_Labels.at [1, 1, 0, 1]
def A_ref09_Labels_j2 : ACode := C_ref09_Labels.at [1, 1, 0]
def A_ref09_Labels : AFunc := ⟨2, [(.tmp 4, .fz)], C_ref09_Labels, none⟩
def J_ref09_Labels_2_0 (R : Orc) (k : Nat) (w : Bool) (a : List FV) (b c d e f : Int) (g : ByteArray) (h i : List FV) := execL R k w [] A_ref09_Labels_j2 Ans ⟨[(0, .fz (.sl a)), (3, .ptr 4096 0 0)], [(4095, .dead), (4096, .var 8 true (.fz (.ag [.int .i64 b, .int .i64 c, .int .i64 d, .int .i64 e, .int .i64 f, .str g, .sl h, .sl i])))]⟩ (kFin R [(.tmp 4, .fz)] [])
def K_ref09_Labels_1 (R : Orc) (k : Nat) (w : Bool) : AExit → St → Option Ans := (kBlk 0 (kSeq R k w [] A_ref09_Labels_s1 (kFin R [(.tmp 4, .fz)] [])))
def L_ref09_Labels_1_0 (R : Orc) (k : Nat) (w : Bool) (n : Nat) (a : List FV) (b c d e f g : Int) (h : ByteArray) (i j : List FV) := loopL R k w [] [0, 3, 5] [4] A_ref09_Labels_b1 n ⟨[(0, .fz (.sl a)), (3, .ptr 4096 0 0), (5, .fz (.int .i64 b))], [(4095, .dead), (4096, .var 8 true (.fz (.ag [.int .i64 c, .int .i64 d, .int .i64 e, .int .i64 f, .int .i64 g, .str h, .sl i, .sl j])))]⟩
def X_ref09_Labels_1_0 (a : Bool) : St := ⟨[(4, .fz (.bool a))], [(4095, .dead)]⟩
def X_ref09_Labels_1_1 : St := ⟨[], [(4095, .dead)]⟩
theorem E_ref09_Labels (R : Orc) (k : Nat) (w : Bool) (a : List FV) (b c d e f : Int) (g : ByteArray) (h i : List FV) : callL R k w A_ref09_Labels [.fz (.sl a), .fz (.ag [.int .i64 b, .int .i64 c, .int .i64 d, .int .i64 e, .int .i64 f, .str g, .sl h, .sl i])] = ifB (decide (b < 0))
 (some ([.fz (.bool false)], []))
 (ifB (decide (b ≥ (List.length a : Int)))
 (some ([.fz (.bool false)], []))
 (jump w (J_ref09_Labels_2_0 R k w a b c d e f g h i))) := by kernel_rfl
theorem J_ref09_Labels_2_0_eq (R : Orc) (k : Nat) (w : Bool) (a : List FV) (b c d e f : Int) (g : ByteArray) (h i : List FV) : J_ref09_Labels_2_0 R k w a b c d e f g h i = onL (L_ref09_Labels_1_0 R k w k a 0 b c d e f g h i) (K_ref09_Labels_1 R k w) := by kernel_rfl
theorem L_ref09_Labels_1_0_eq (R : Orc) (k : Nat) (w : Bool) (n : Nat) (a : List FV) (b c d e f g : Int) (h : ByteArray) (i j : List FV) : L_ref09_Labels_1_0 R k w (n + 1) a b c d e f g h i j = ifB (decide (b < (List.length i : Int)))
 (when ((decide (0 ≤ b)) && (decide (b < (List.length i : Int)))) (when (fits 8 true (List.getD i (Int.toNat b) nilp)) (onR (R N_ref09_Labels [.fz (.sl a), .fz (List.getD i (Int.toNat b) nilp)]) fun r0 => when (List.isEmpty r0.2 && allF [.fz] r0.1) (when (isBool (toF (List.getD r0.1 0 em))) (ifB (!(toBool (toF (List.getD r0.1 0 em))))
 (some (.ret, X_ref09_Labels_1_0 false))
 (L_ref09_Labels_1_0 R k w n a (IntKind.wrap .i64 (b + 1)) c d e f g h i j))))))
 (some ((.exit 0), X_ref09_Labels_1_1)) := by kernel_rfl
theorem X_ref09_Labels_1_0_eq (R : Orc) (k : Nat) (w a : Bool) : K_ref09_Labels_1 R k w .ret (X_ref09_Labels_1_0 a) = some ([.fz (.bool a)], []) := by kernel_rfl
theorem X_ref09_Labels_1_1_eq (R : Orc) (k : Nat) (w : Bool) : K_ref09_Labels_1 R k w (.exit 0) (X_ref09_Labels_1_1) = some ([.fz (.bool true)], []) := by kernel_rfl
/-! keyhole/keyholeref09.right -/
def C_ref09_right : ACode := codeOf 49 Try.f49
def A_ref09_right_b1 : ACode := C_ref09_right.at [1, 1, 0, 1, 0, 0]
def A_ref09_right_s1 : ACode := C_ref09_right.at [1, 1, 1]
def A_ref09_right : AFunc := ⟨2, [(.tmp 4, .fz)], C_ref09_right, none⟩
def K_ref09_right_1 (R : Orc) (k : Nat) (w : Bool) : AExit → St → Option Ans := (kBlk 0 (kSeq R k w [] A_ref09_right_s1 (kFin R [(.tmp 4, .fz)] [])))
def L_ref09_right_1_0 (R : Orc) (k : Nat) (w : Bool) (n : Nat) (a : List FV) (b c d e f g : Int) (h : ByteArray) (i j : List FV) := loopL R k w [] [0, 3, 5] [4] A_ref09_right_b1 n ⟨[(0, .fz (.sl a)), (3, .ptr 4096 0 0), (5, .fz (.int .i64 b))], [(4095, .dead), (4096, .var 8 true (.fz (.ag [.int .i64 c, .int .i64 d, .int .i64 e, .int .i64 f, .int .i64 g, .str h, .sl i, .sl j])))]⟩
def X_ref09_right_1_0 (a : Bool) : St := ⟨[(4, .fz (.bool a))], [(4095, .dead)]⟩
def X_ref09_right_1_1 : St := ⟨[], [(4095, .dead)]⟩
theorem E_ref09_right (R : Orc) (k : Nat) (w : Bool) (a : List FV) (b c d e f : Int) (g : ByteArray) (h i : List FV) : callL R k w A_ref09_right [.fz (.sl a), .fz (.ag [.int .i64 b, .int .i64 c, .int .i64 d, .int .i64 e, .int .i64 f, .str g, .sl h, .sl i])] = onR (R N_ref09_Deep [.fz (.sl a), .fz (.ag [.int .i64 b, .int .i64 c, .int .i64 d, .int .i64 e, .int .i64 f, .str g, .sl h, .sl i])]) fun r0 => when (List.isEmpty r0.2 && allF [.fz] r0.1) (when (isInt .i64 (toF (List.getD r0.1 0 em))) (ifB (c != (toInt (toF (List.getD r0.1 0 em))))
 (some ([.fz (.bool false)], []))
 (onL (L_ref09_right_1_0 R k w k a 0 b c d e f g h i) (K_ref09_right_1 R k w)))) := by kernel_rfl
theorem L_ref09_right_1_0_eq (R : Orc) (k : Nat) (w : Bool) (n : Nat) (a : List FV) (b c d e f g : Int) (h : ByteArray) (i j : List FV) : L_ref09_right_1_0 R k w (n + 1) a b c d e f g h i j = ifB (decide (b < (List.length i : Int)))
 (when ((decide (0 ≤ b)) && (decide (b < (List.length i : Int)))) (when (fits 8 true (List.getD i (Int.toNat b) nilp)) (onR (R N_ref09_right [.fz (.sl a), .fz (List.getD i (Int.toNat b) nilp)]) fun r1 => when (List.isEmpty r1.2 && allF [.fz] r1.1) (when (isBool (toF (List.getD r1.1 0 em))) (ifB (!(toBool (toF (List.getD r1.1 0 em))))
 (some (.ret, X_ref09_right_1_0 false))
 (L_ref09_right_1_0 R k w n a (IntKind.wrap .i64 (b + 1)) c d e f g h i j))))))
 (some ((.exit 0), X_ref09_right_1_1)) := by kernel_rfl
theorem X_ref09_right_1_0_eq (R : Orc) (k : Nat) (w a : Bool) : K_ref09_right_1 R k w .ret (X_ref09_right_1_0 a) = some ([.fz (.bool a)], []) := by kernel_rfl
theorem X_ref09_right_1_1_eq (R : Orc) (k : Nat) (w : Bool) : K_ref09_right_1 R k w (.exit 0) (X_ref09_right_1_1) = some ([.fz (.bool true)], []) := by kernel_rfl
/-! keyhole/keyholeref09.shape -/
def C_ref09_shape : ACode := codeOf 50 Try.f50
def A_ref09_shape_b1 : ACode := C_ref09_shape.at [1, 1, 1, 1, 0, 0, 1, 0, 0]
def A_ref09_shape_b2 : ACode := C_ref09_shape.at [1, 1, 1, 1, 0, 1, 1, 0, 1, 0, 0]
def A_ref09_shape_s1 : ACode := C_ref09_shape.at [1, 1, 1, 1, 0, 1, 1, 1]
def A_ref09_shape_s2 : ACode := C_ref09_shape.at [1, 1, 1, 1, 0, 1]
def A_ref09_shape_j3 : ACode := C_ref09_shape.at [1, 1, 1, 1, 0]
def A_ref09_shape : AFunc := ⟨1, [(.tmp 2, .fz)], C_ref09_shape, none⟩
def J_ref09_shape_3_0 (R : Orc) (k : Nat) (w : Bool) (a b c : Int) (d : ByteArray) (e f : List FV) (g h i : Int) (j : ByteArray) (l : List FV) := execL R k w [] A_ref09_shape_j3 Ans ⟨[(1, .ptr 4096 0 0), (3, .ptr 4097 0 0)], [(4095, .dead), (4096, .var 6 true (.fz (.ag [.int .i64 a, .int .i64 b, .int .i64 c, .str d, .sl e, .sl f]))), (4097, .var 6 true (.ag [.fz (.int .i64 g), .fz (.int .i64 h), .fz (.int .i64 i), .fz (.str j), .nils, .fz (.sl l)]))]⟩ (kFin R [(.tmp 2, .fz)] [])
def K_ref09_shape_1 (R : Orc) (k : Nat) (w : Bool) : AExit → St → Option Ans := (kBlk 0 (kSeq R k w [] A_ref09_shape_s2 (kFin R [(.tmp 2, .fz)] [])))
def L_ref09_shape_1_0 (R : Orc) (k : Nat) (w : Bool) (n : Nat) (a b c d : Int) (e : ByteArray) (f g : List FV) (h i j : Int) (l : ByteArray) (m : List FV) := loopL R k w [] [1, 3, 4] [1, 3] A_ref09_shape_b1 n ⟨[(1, .ptr 4096 0 0), (3, .ptr 4097 0 0), (4, .fz (.int .i64 a))], [(4095, .dead), (4096, .var 6 true (.fz (.ag [.int .i64 b, .int .i64 c, .int .i64 d, .str e, .sl f, .sl g]))), (4097, .var 6 true (.ag [.fz (.int .i64 h), .fz (.int .i64 i), .fz (.int .i64 j), .fz (.str l), .nils, .fz (.sl m)]))]⟩
def L_ref09_shape_1_1 (R : Orc) (k : Nat) (w : Bool) (n : Nat) (a b c d : Int) (e : ByteArray) (f g : List FV) (h i j : Int) (l : ByteArray) (m o : List FV) := loopL R k w [] [1, 3, 4] [1, 3] A_ref09_shape_b1 n ⟨[(1, .ptr 4096 0 0), (3, .ptr 4097 0 0), (4, .fz (.int .i64 a))], [(4095, .dead), (4096, .var 6 true (.fz (.ag [.int .i64 b, .int .i64 c, .int .i64 d, .str e, .sl f, .sl g]))), (4097, .var 6 true (.ag [.fz (.int .i64 h), .fz (.int .i64 i), .fz (.int .i64 j), .fz (.str l), .rw 4098, .fz (.sl m)])), (4098, .row 6 true o)]⟩
def X_ref09_shape_1_0 (a b c : Int) (d : ByteArray) (e f : List FV) (g h i : Int) (j : ByteArray) (l : List FV) : St := ⟨[(1, .ptr 4096 0 0), (3, .ptr 4097 0 0)], [(4095, .dead), (4096, .var 6 true (.fz (.ag [.int .i64 a, .int .i64 b, .int .i64 c, .str d, .sl e, .sl f]))), (4097, .var 6 true (.ag [.fz (.int .i64 g), .fz (.int .i64 h), .fz (.int .i64 i), .fz (.str j), .nils, .fz (.sl l)]))]⟩
def X_ref09_shape_1_1 (a b c : Int) (d : ByteArray) (e f : List FV) (g h i : Int) (j : ByteArray) (l m : List FV) : St := ⟨[(1, .ptr 4096 0 0), (3, .ptr 4097 0 0)], [(4095, .dead), (4096, .var 6 true (.fz (.ag [.int .i64 a, .int .i64 b, .int .i64 c, .str d, .sl e, .sl f]))), (4097, .var 6 true (.ag [.fz (.int .i64 g), .fz (.int .i64 h), .fz (.int .i64 i), .fz (.str j), .rw 4098, .fz (.sl l)])), (4098, .row 6 true m)]⟩
def K_ref09_shape_2 (R : Orc) (k : Nat) (w : Bool) : AExit → St → Option Ans := (kBlk 2 (kSeq R k w [] A_ref09_shape_s1 (kFin R [(.tmp 2, .fz)] [])))
def L_ref09_shape_2_0 (R : Orc) (k : Nat) (w : Bool) (n : Nat) (a b c d : Int) (e : ByteArray) (f g : List FV) := loopL R k w [] [1, 5] [2] A_ref09_shape_b2 n ⟨[(1, .ptr 4096 0 0), (5, .fz (.int .i64 a))], [(4095, .dead), (4096, .var 6 true (.fz (.ag [.int .i64 b, .int .i64 c, .int .i64 d, .str e, .sl f, .sl g])))]⟩
def X_ref09_shape_2_0 (a : Bool) : St := ⟨[(2, .fz (.bool a))], [(4095, .dead)]⟩
def X_ref09_shape_2_1 : St := ⟨[], [(4095, .dead)]⟩
theorem E_ref09_shape (R : Orc) (k : Nat) (w : Bool) (a b c : Int) (d : ByteArray) (e f : List FV) : callL R k w A_ref09_shape [.fz (.ag [.int .i64 a, .int .i64 b, .int .i64 c, .str d, .sl e, .sl f])] = ifB (a == 6)
 (ifB ((List.length f : Int) != (List.length e : Int))
 (some ([.fz (.bool false)], []))
 (ifB (a != 5)
 (ifB (a != 6)
 (ifB (decide ((List.length e : Int) > 0))
 (some ([.fz (.bool false)], []))
 (jump w (J_ref09_shape_3_0 R k w a b c d e f a b c d f)))
 (jump w (J_ref09_shape_3_0 R k w a b c d e f a b c d f)))
 (jump w (J_ref09_shape_3_0 R k w a b c d e f a b c d f))))
 (ifB (a != 5)
 (ifB (a != 6)
 (ifB (decide ((List.length e : Int) > 0))
 (some ([.fz (.bool false)], []))
 (jump w (J_ref09_shape_3_0 R k w a b c d e f a b c d f)))
 (jump w (J_ref09_shape_3_0 R k w a b c d e f a b c d f)))
 (jump w (J_ref09_shape_3_0 R k w a b c d e f a b c d f))) := by kernel_rfl
theorem J_ref09_shape_3_0_eq (R : Orc) (k : Nat) (w : Bool) (a b c : Int) (d : ByteArray) (e f : List FV) (g h i : Int) (j : ByteArray) (l : List FV) : J_ref09_shape_3_0 R k w a b c d e f g h i j l = onL (L_ref09_shape_1_0 R k w k 0 a b c d e f g h i j l) (K_ref09_shape_1 R k w) := by kernel_rfl
theorem L_ref09_shape_1_0_eq (R : Orc) (k : Nat) (w : Bool) (n : Nat) (a b c d : Int) (e : ByteArray) (f g : List FV) (h i j : Int) (l : ByteArray) (m : List FV) : L_ref09_shape_1_0 R k w (n + 1) a b c d e f g h i j l m = ifB (decide (a < (List.length g : Int)))
 (when (decide (((0 : Nat) + List.length [(FV.ag [.int .i64 0, .int .i64 0, .int .i64 0, (.str (⟨#[]⟩ : ByteArray)), .sl [], .sl []])]) * 88 ≤ roomy) && decide ((0 : Nat) + List.length [(FV.ag [.int .i64 0, .int .i64 0, .int .i64 0, (.str (⟨#[]⟩ : ByteArray)), .sl [], .sl []])] ≤ roomy)) (L_ref09_shape_1_1 R k w n (IntKind.wrap .i64 (a + 1)) b c d e f g h i j l m [(.ag [.int .i64 0, .int .i64 0, .int .i64 0, (.str (⟨#[]⟩ : ByteArray)), .sl [], .sl []])]))
 (some ((.exit 0), X_ref09_shape_1_0 b c d e f g h i j l m)) := by kernel_rfl
theorem L_ref09_shape_1_1_eq (R : Orc) (k : Nat) (w : Bool) (n : Nat) (a b c d : Int) (e : ByteArray) (f g : List FV) (h i j : Int) (l : ByteArray) (m o : List FV) : L_ref09_shape_1_1 R k w (n + 1) a b c d e f g h i j l m o = ifB (decide (a < (List.length g : Int)))
 (when (decide ((List.length o + List.length [(FV.ag [.int .i64 0, .int .i64 0, .int .i64 0, (.str (⟨#[]⟩ : ByteArray)), .sl [], .sl []])]) * 88 ≤ roomy) && decide (List.length o + List.length [(FV.ag [.int .i64 0, .int .i64 0, .int .i64 0, (.str (⟨#[]⟩ : ByteArray)), .sl [], .sl []])] ≤ roomy)) (L_ref09_shape_1_1 R k w n (IntKind.wrap .i64 (a + 1)) b c d e f g h i j l m (o ++ [(FV.ag [.int .i64 0, .int .i64 0, .int .i64 0, (.str (⟨#[]⟩ : ByteArray)), .sl [], .sl []])])))
 (some ((.exit 0), X_ref09_shape_1_1 b c d e f g h i j l m o)) := by kernel_rfl
theorem X_ref09_shape_1_0_eq (R : Orc) (k : Nat) (w : Bool) (a b c : Int) (d : ByteArray) (e f : List FV) (g h i : Int) (j : ByteArray) (l : List FV) : K_ref09_shape_1 R k w (.exit 0) (X_ref09_shape_1_0 a b c d e f g h i j l) = onR (R N_ref05_Is [.fz (.ag [.int .i64 g, .int .i64 h, .int .i64 i, .str j, .sl [], .sl l]), .fz (.int .i64 0)]) fun r0 => when (List.isEmpty r0.2 && allF [.fz] r0.1) (when (isBool (toF (List.getD r0.1 0 em))) (ifB (!(toBool (toF (List.getD r0.1 0 em))))
 (some ([.fz (.bool false)], []))
 (onL (L_ref09_shape_2_0 R k w k 0 a b c d e f) (K_ref09_shape_2 R k w)))) := by kernel_rfl
theorem X_ref09_shape_1_1_eq (R : Orc) (k : Nat) (w : Bool) (a b c : Int) (d : ByteArray) (e f : List FV) (g h i : Int) (j : ByteArray) (l m : List FV) : K_ref09_shape_1 R k w (.exit 0) (X_ref09_shape_1_1 a b c d e f g h i j l m) = onR (R N_ref05_Is [.fz (.ag [.int .i64 g, .int .i64 h, .int .i64 i, .str j, .sl m, .sl l]), .fz (.int .i64 0)]) fun r1 => when (List.isEmpty r1.2 && allF [.fz] r1.1) (when (isBool (toF (List.getD r1.1 0 em))) (ifB (!(toBool (toF (List.getD r1.1 0 em))))
 (some ([.fz (.bool false)], []))
 (onL (L_ref09_shape_2_0 R k w k 0 a b c d e f) (K_ref09_shape_2 R k w)))) := by kernel_rfl
theorem L_ref09_shape_2_0_eq (R : Orc) (k : Nat) (w : Bool) (n : Nat) (a b c d : Int) (e : ByteArray) (f g : List FV) : L_ref09_shape_2_0 R k w (n + 1) a b c d e f g = ifB (decide (a < (List.length f : Int)))
 (when ((decide (0 ≤ a)) && (decide (a < (List.length f : Int)))) (when (fits 6 true (List.getD f (Int.toNat a) nilp)) (onR (R N_ref09_shape [.fz (List.getD f (Int.toNat a) nilp)]) fun r2 => when (List.isEmpty r2.2 && allF [.fz] r2.1) (when (isBool (toF (List.getD r2.1 0 em))) (ifB (!(toBool (toF (List.getD r2.1 0 em))))
 (some (.ret, X_ref09_shape_2_0 false))
 (L_ref09_shape_2_0 R k w n (IntKind.wrap .i64 (a + 1)) b c d e f g))))))
 (some ((.exit 2), X_ref09_shape_2_1)) := by kernel_rfl
theorem X_ref09_shape_2_0_eq (R : Orc) (k : Nat) (w a : Bool) : K_ref09_shape_2 R k w .ret (X_ref09_shape_2_0 a) = some ([.fz (.bool a)], []) := by kernel_rfl
theorem X_ref09_shape_2_1_eq (R : Orc) (k : Nat) (w : Bool) : K_ref09_shape_2 R k w (.exit 2) (X_ref09_shape_2_1) = some ([.fz (.bool true)], []) := by kernel_rfl
end
end Go.Ab
