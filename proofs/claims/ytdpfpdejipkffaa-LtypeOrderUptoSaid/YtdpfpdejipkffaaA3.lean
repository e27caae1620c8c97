-- Written by a program of the session, out of the translation. Lean checks it.
import Derived.Test.YtdpfpdejipkffaaA0
namespace Go.Ab
open Go.Proofs FV TV
set_option linter.unusedVariables false
set_option maxRecDepth 100000
noncomputable section
/-! slices.BinarySearch[[]string,string] -/
def C_slices_BinarySearch___string_string_ : ACode := codeOf 62 Try.f62
def A_slices_BinarySearch___string_string__b1 : ACode := C_slices_BinarySearch___string_string_.at [1, 1, 1, 0, 0, 0]
def A_slices_BinarySearch___string_string__s1 : ACode := C_slices_BinarySearch___string_string_.at [1, 1, 1, 1]
def A_slices_BinarySearch___string_string_ : AFunc := ⟨2, [(.tmp 4, .fz), (.tmp 5, .fz)], C_slices_BinarySearch___string_string_, none⟩
def K_slices_BinarySearch___string_string__1 (R : Orc) (k : Nat) (w : Bool) : AExit → St → Option Ans := (kBlk 0 (kSeq R k w [] A_slices_BinarySearch___string_string__s1 (kFin R [(.tmp 4, .fz), (.tmp 5, .fz)] [])))
def L_slices_BinarySearch___string_string__1_0 (R : Orc) (k : Nat) (w : Bool) (n : Nat) (a : List FV) (b : ByteArray) (c d e : Int) := loopL R k w [] [0, 1, 6, 7, 8] [0, 1, 6, 7] A_slices_BinarySearch___string_string__b1 n ⟨[(0, .fz (.sl a)), (1, .fz (.str b)), (6, .fz (.int .i64 c)), (7, .fz (.int .i64 d)), (8, .fz (.int .i64 e))], [(4095, .dead)]⟩
def X_slices_BinarySearch___string_string__1_0 (a : List FV) (b : ByteArray) (c d : Int) : St := ⟨[(0, .fz (.sl a)), (1, .fz (.str b)), (6, .fz (.int .i64 c)), (7, .fz (.int .i64 d))], [(4095, .dead)]⟩
theorem E_slices_BinarySearch___string_string_ (R : Orc) (k : Nat) (w : Bool) (a : List FV) (b : ByteArray) : callL R k w A_slices_BinarySearch___string_string_ [.fz (.sl a), .fz (.str b)] = onL (L_slices_BinarySearch___string_string__1_0 R k w k a b (List.length a : Int) 0 (List.length a : Int)) (K_slices_BinarySearch___string_string__1 R k w) := by kernel_rfl
theorem L_slices_BinarySearch___string_string__1_0_eq (R : Orc) (k : Nat) (w : Bool) (n : Nat) (a : List FV) (b : ByteArray) (c d e : Int) : L_slices_BinarySearch___string_string__1_0 R k w (n + 1) a b c d e = ifB (decide (d < e))
 (when ((decide (0 ≤ (IntKind.wrap .i64 (Int.fdiv (IntKind.wrap .u64 (IntKind.wrap .i64 (d + e))) (2 ^ (min 1 (IntKind.bits .u64))))))) && (decide ((IntKind.wrap .i64 (Int.fdiv (IntKind.wrap .u64 (IntKind.wrap .i64 (d + e))) (2 ^ (min 1 (IntKind.bits .u64))))) < (List.length a : Int)))) (when (fits 1 false (List.getD a (Int.toNat (IntKind.wrap .i64 (Int.fdiv (IntKind.wrap .u64 (IntKind.wrap .i64 (d + e))) (2 ^ (min 1 (IntKind.bits .u64)))))) nilp)) (when (isStr (List.getD a (Int.toNat (IntKind.wrap .i64 (Int.fdiv (IntKind.wrap .u64 (IntKind.wrap .i64 (d + e))) (2 ^ (min 1 (IntKind.bits .u64)))))) nilp)) (onR (R N_cmp_Less_string_ [.fz (.str (toStr (List.getD a (Int.toNat (IntKind.wrap .i64 (Int.fdiv (IntKind.wrap .u64 (IntKind.wrap .i64 (d + e))) (2 ^ (min 1 (IntKind.bits .u64)))))) nilp))), .fz (.str b)]) fun r0 => when (List.isEmpty r0.2 && allF [.fz] r0.1) (when (isBool (toF (List.getD r0.1 0 em))) (ifB (toBool (toF (List.getD r0.1 0 em)))
 (L_slices_BinarySearch___string_string__1_0 R k w n a b c (IntKind.wrap .i64 ((IntKind.wrap .i64 (Int.fdiv (IntKind.wrap .u64 (IntKind.wrap .i64 (d + e))) (2 ^ (min 1 (IntKind.bits .u64))))) + 1)) e)
 (L_slices_BinarySearch___string_string__1_0 R k w n a b c d (IntKind.wrap .i64 (Int.fdiv (IntKind.wrap .u64 (IntKind.wrap .i64 (d + e))) (2 ^ (min 1 (IntKind.bits .u64))))))))))))
 (some ((.exit 0), X_slices_BinarySearch___string_string__1_0 a b c d)) := by kernel_rfl
theorem X_slices_BinarySearch___string_string__1_0_eq (R : Orc) (k : Nat) (w : Bool) (a : List FV) (b : ByteArray) (c d : Int) : K_slices_BinarySearch___string_string__1 R k w (.exit 0) (X_slices_BinarySearch___string_string__1_0 a b c d) = ifB (decide (d < c))
 (when ((decide (0 ≤ d)) && (decide (d < (List.length a : Int)))) (when (fits 1 false (List.getD a (Int.toNat d) nilp)) (when (isStr (List.getD a (Int.toNat d) nilp)) (ifB (ByteArray.toList (toStr (List.getD a (Int.toNat d) nilp)) == ByteArray.toList b)
 (some ([.fz (.int .i64 d), .fz (.bool true)], []))
 (when ((decide (0 ≤ d)) && (decide (d < (List.length a : Int)))) (when (fits 1 false (List.getD a (Int.toNat d) nilp)) (when (isStr (List.getD a (Int.toNat d) nilp)) (onR (R N_slices_isNaN_string_ [.fz (.str (toStr (List.getD a (Int.toNat d) nilp)))]) fun r1 => when (List.isEmpty r1.2 && allF [.fz] r1.1) (when (isBool (toF (List.getD r1.1 0 em))) (ifB (toBool (toF (List.getD r1.1 0 em)))
 (onR (R N_slices_isNaN_string_ [.fz (.str b)]) fun r2 => when (List.isEmpty r2.2 && allF [.fz] r2.1) (when (isBool (toF (List.getD r2.1 0 em))) (some ([.fz (.int .i64 d), .fz (.bool (toBool (toF (List.getD r2.1 0 em))))], []))))
 (some ([.fz (.int .i64 d), .fz (.bool false)], []))))))))))))
 (some ([.fz (.int .i64 d), .fz (.bool false)], [])) := by kernel_rfl
/-! (*keyhole/level.Lattice).Is -/
def C_level_Lattice_Is : ACode := codeOf 64 Try.f64
def A_level_Lattice_Is : AFunc := ⟨2, [(.tmp 4, .fz)], C_level_Lattice_Is, none⟩
theorem E_level_Lattice_Is (R : Orc) (k : Nat) (w : Bool) (a : FV) (b : Int) : callL R k w A_level_Lattice_Is [.fz (.pt 195 true a 0), .fz (.int .i64 b)] = ifB (decide (b ≥ 0))
 (onR (R N_level_Lattice_Size [.fz (.pt 195 true a 0)]) fun r0 => when (List.isEmpty r0.2 && allF [.fz] r0.1) (when (isInt .i64 (toF (List.getD r0.1 0 em))) (some ([.fz (.bool (decide (b < (toInt (toF (List.getD r0.1 0 em))))))], []))))
 (some ([.fz (.bool false)], [])) := by kernel_rfl
/-! keyhole/level.named -/
def C_level_named : ACode := codeOf 65 Try.f65
def A_level_named_b1 : ACode := C_level_named.at [1, 1, 0, 0, 1, 0, 0, 1, 1, 0, 0, 1, 1, 1, 0, 0]
def A_level_named_s1 : ACode := C_level_named.at [1, 1, 0, 0, 1, 0, 0, 1, 1, 1]
def A_level_named_b2 : ACode := C_level_named.at [1, 1, 0, 0, 1, 0, 0]
def A_level_named_s2 : ACode := C_level_named.at [1, 1, 0, 1]
def A_level_named_j3 : ACode := C_level_named.at [1, 1, 0]
def A_level_named : AFunc := ⟨1, [(.tmp 2, .fz)], C_level_named, none⟩
def J_level_named_3_0 (R : Orc) (k : Nat) (w : Bool) (a : List FV) := execL R k w [] A_level_named_j3 Ans ⟨[(0, .fz (.sl a))], [(4095, .dead)]⟩ (kFin R [(.tmp 2, .fz)] [])
def K_level_named_2 (R : Orc) (k : Nat) (w : Bool) : AExit → St → Option Ans := (kBlk 0 (kSeq R k w [] A_level_named_s2 (kFin R [(.tmp 2, .fz)] [])))
def L_level_named_2_0 (R : Orc) (k : Nat) (w : Bool) (n : Nat) (a b : List FV) (c d : Int) := loopL R k w [] [0, 15, 16, 17] [2] A_level_named_b2 n ⟨[(0, .fz (.sl a)), (15, .fz (.sl b)), (16, .fz (.int .i64 c)), (17, .fz (.int .i64 d))], [(4095, .dead)]⟩
def X_level_named_2_0 (a : Bool) : St := ⟨[(2, .fz (.bool a))], [(4095, .dead)]⟩
def K_level_named_1 (R : Orc) (k : Nat) (w : Bool) (n : Nat) : AExit → St → Option (AExit × St) := (kBlk 2 (kBlk 1 (kSeq R k w [] A_level_named_s1 (kLoop R k w [] [0, 15, 16, 17] [2] A_level_named_b2 n))))
def L_level_named_1_0 (R : Orc) (k : Nat) (w : Bool) (n : Nat) (a : List FV) (b : ByteArray) (c : List FV) (d e : Int) (f : List FV) (g h : Int) := loopL R k w [] [0, 4, 15, 16, 17, 27, 28, 29] [0, 2, 15, 16, 17] A_level_named_b1 n ⟨[(0, .fz (.sl a)), (4, .fz (.str b)), (15, .fz (.sl c)), (16, .fz (.int .i64 d)), (17, .fz (.int .i64 e)), (27, .fz (.sl f)), (28, .fz (.int .i64 g)), (29, .fz (.int .i64 h))], [(4095, .dead)]⟩
def X_level_named_2_1 : St := ⟨[], [(4095, .dead)]⟩
def X_level_named_1_0 (a : List FV) (b : Bool) (c : List FV) (d e : Int) : St := ⟨[(0, .fz (.sl a)), (2, .fz (.bool b)), (15, .fz (.sl c)), (16, .fz (.int .i64 d)), (17, .fz (.int .i64 e))], [(4095, .dead)]⟩
def X_level_named_1_1 (a b : List FV) (c d : Int) : St := ⟨[(0, .fz (.sl a)), (15, .fz (.sl b)), (16, .fz (.int .i64 c)), (17, .fz (.int .i64 d))], [(4095, .dead)]⟩
theorem E_level_named (R : Orc) (k : Nat) (w : Bool) (a : List FV) : callL R k w A_level_named [.fz (.sl a)] = ifB (decide ((List.length a : Int) < 1))
 (some ([.fz (.bool false)], []))
 (ifB (decide ((List.length a : Int) > 8))
 (some ([.fz (.bool false)], []))
 (jump w (J_level_named_3_0 R k w a))) := by kernel_rfl
theorem J_level_named_3_0_eq (R : Orc) (k : Nat) (w : Bool) (a : List FV) : J_level_named_3_0 R k w a = onL (L_level_named_2_0 R k w k a a (List.length a : Int) 0) (K_level_named_2 R k w) := by kernel_rfl
theorem L_level_named_2_0_eq (R : Orc) (k : Nat) (w : Bool) (n : Nat) (a b : List FV) (c d : Int) : L_level_named_2_0 R k w (n + 1) a b c d = ifB (decide (d < c))
 (when ((decide (0 ≤ d)) && (decide (d < (List.length b : Int)))) (when (fits 1 false (List.getD b (Int.toNat d) nilp)) (when (isStr (List.getD b (Int.toNat d) nilp)) (onR (R N_level_Name [.fz (.str (toStr (List.getD b (Int.toNat d) nilp)))]) fun r0 => when (List.isEmpty r0.2 && allF [.fz] r0.1) (when (isBool (toF (List.getD r0.1 0 em))) (ifB (!(toBool (toF (List.getD r0.1 0 em))))
 (some (.ret, X_level_named_2_0 false))
 (when (List.all a (fits 1 false)) (when (decide (0 ≤ d) && decide (d ≤ (List.length a : Int))) (when (decide (0 ≤ 0) && decide (0 ≤ d)) (onL (L_level_named_1_0 R k w k a (toStr (List.getD b (Int.toNat d) nilp)) b c d (List.drop 0 (List.take (Int.toNat d) a)) (List.length (List.drop 0 (List.take (Int.toNat d) a)) : Int) 0) (K_level_named_1 R k w n)))))))))))
 (some ((.exit 0), X_level_named_2_1)) := by kernel_rfl
theorem X_level_named_2_0_eq (R : Orc) (k : Nat) (w a : Bool) : K_level_named_2 R k w .ret (X_level_named_2_0 a) = some ([.fz (.bool a)], []) := by kernel_rfl
theorem L_level_named_1_0_eq (R : Orc) (k : Nat) (w : Bool) (n : Nat) (a : List FV) (b : ByteArray) (c : List FV) (d e : Int) (f : List FV) (g h : Int) : L_level_named_1_0 R k w (n + 1) a b c d e f g h = ifB (decide (h < g))
 (when ((decide (0 ≤ h)) && (decide (h < (List.length f : Int)))) (when (fits 1 false (List.getD f (Int.toNat h) nilp)) (when (isStr (List.getD f (Int.toNat h) nilp)) (ifB (ByteArray.toList b == ByteArray.toList (toStr (List.getD f (Int.toNat h) nilp)))
 (some (.ret, X_level_named_1_0 a false c d e))
 (L_level_named_1_0 R k w n a b c d e f g (IntKind.wrap .i64 (h + 1)))))))
 (some ((.exit 2), X_level_named_1_1 a c d e)) := by kernel_rfl
theorem X_level_named_2_1_eq (R : Orc) (k : Nat) (w : Bool) : K_level_named_2 R k w (.exit 0) (X_level_named_2_1) = some ([.fz (.bool true)], []) := by kernel_rfl
theorem X_level_named_1_0_eq (R : Orc) (k : Nat) (w : Bool) (n : Nat) (a : List FV) (b : Bool) (c : List FV) (d e : Int) : K_level_named_1 R k w n .ret (X_level_named_1_0 a b c d e) = some (.ret, X_level_named_2_0 b) := by kernel_rfl
theorem X_level_named_1_1_eq (R : Orc) (k : Nat) (w : Bool) (n : Nat) (a b : List FV) (c d : Int) : K_level_named_1 R k w n (.exit 2) (X_level_named_1_1 a b c d) = L_level_named_2_0 R k w n a b c (IntKind.wrap .i64 (d + 1)) := by kernel_rfl
/-! keyhole/level.laid -/
def C_level_laid : ACode := codeOf 66 Try.f66
def A_level_laid_b1 : ACode := C_level_laid.at [1, 1, 1, 0, 1, 0, 0]
def A_level_laid_j1 : ACode := C_level_laid.at [1, 1, 1, 1, 0, 1, 0, 0, 1, 1, 0, 0, 1, 1, 0]
def A_level_laid_s2 : ACode := C_level_laid.at [1, 1, 1, 1, 0, 1, 0, 0, 1, 1, 1]
def A_level_laid_b2 : ACode := C_level_laid.at [1, 1, 1, 1, 0, 1, 0, 0]
def A_level_laid_s3 : ACode := C_level_laid.at [1, 1, 1, 1, 1]
def A_level_laid_s4 : ACode := C_level_laid.at [1, 1, 1, 1]
def A_level_laid : AFunc := ⟨2, [(.cell 4 64 true, .fz), (.tmp 5, .fz)], C_level_laid, none⟩
def K_level_laid_1 (R : Orc) (k : Nat) (w : Bool) : AExit → St → Option Ans := (kBlk 0 (kSeq R k w [] A_level_laid_s4 (kFin R [(.cell 4 64 true, .fz), (.tmp 5, .fz)] [])))
def L_level_laid_1_0 (R : Orc) (k : Nat) (w : Bool) (n : Nat) (a : Int) (b : List FV) (c d : Int) (e f : FV) := loopL R k w [] [0, 1, 4, 6, 14, 15] [0, 1, 4, 6] A_level_laid_b1 n ⟨[(0, .fz (.int .i64 a)), (1, .fz (.sl b)), (4, .ptr 4096 0 0), (6, .ptr 4097 0 0), (14, .fz (.int .i64 c)), (15, .fz (.int .i64 d))], [(4095, .dead), (4096, .var 64 true (.fz e)), (4097, .var 64 true (.fz f))]⟩
def X_level_laid_1_0 (a : Int) (b : List FV) (c d : FV) : St := ⟨[(0, .fz (.int .i64 a)), (1, .fz (.sl b)), (4, .ptr 4096 0 0), (6, .ptr 4097 0 0)], [(4095, .dead), (4096, .var 64 true (.fz c)), (4097, .var 64 true (.fz d))]⟩
def K_level_laid_2 (R : Orc) (k : Nat) (w : Bool) : AExit → St → Option Ans := (kBlk 2 (kSeq R k w [] A_level_laid_s3 (kFin R [(.cell 4 64 true, .fz), (.tmp 5, .fz)] [])))
def L_level_laid_2_0 (R : Orc) (k : Nat) (w : Bool) (n : Nat) (a : Int) (b : List FV) (c d : Int) (e f : FV) := loopL R k w [] [0, 4, 6, 23, 24, 25] [4, 5, 6] A_level_laid_b2 n ⟨[(0, .fz (.int .i64 a)), (4, .ptr 4096 0 0), (6, .ptr 4097 0 0), (23, .fz (.sl b)), (24, .fz (.int .i64 c)), (25, .fz (.int .i64 d))], [(4095, .dead), (4096, .var 64 true (.fz e)), (4097, .var 64 true (.fz f))]⟩
def X_level_laid_2_0 (a : Bool) (b c : FV) : St := ⟨[(4, .ptr 4096 0 0), (5, .fz (.bool a)), (6, .ptr 4097 0 0)], [(4095, .dead), (4096, .var 64 true (.fz b)), (4097, .var 64 true (.fz c))]⟩
def J_level_laid_1_0 (R : Orc) (k : Nat) (w : Bool) (n : Nat) (a : Int) (b : List FV) (c d : Int) (e f g : FV) := execL R k w [] A_level_laid_j1 (AExit × St) ⟨[(0, .fz (.int .i64 a)), (4, .ptr 4096 0 0), (6, .ptr 4097 0 0), (9, .ptr 4098 0 0), (23, .fz (.sl b)), (24, .fz (.int .i64 c)), (25, .fz (.int .i64 d))], [(4095, .dead), (4096, .var 64 true (.fz e)), (4097, .var 64 true (.fz f)), (4098, .var 2 true (.fz g))]⟩ (kBlk 3 (kSeq R k w [] A_level_laid_s2 (kLoop R k w [] [0, 4, 6, 23, 24, 25] [4, 5, 6] A_level_laid_b2 n)))
def X_level_laid_2_1 (a b : FV) : St := ⟨[(4, .ptr 4096 0 0), (6, .ptr 4097 0 0)], [(4095, .dead), (4096, .var 64 true (.fz a)), (4097, .var 64 true (.fz b))]⟩
theorem E_level_laid (R : Orc) (k : Nat) (w : Bool) (a : Int) (b : List FV) : callL R k w A_level_laid [.fz (.int .i64 a), .fz (.sl b)] = ifB (decide ((List.length b : Int) > 64))
 (some ([.fz (.ag [.bool false, .bool false, .bool false, .bool false, .bool false, .bool false, .bool false, .bool false, .bool false, .bool false, .bool false, .bool false, .bool false, .bool false, .bool false, .bool false, .bool false, .bool false, .bool false, .bool false, .bool false, .bool false, .bool false, .bool false, .bool false, .bool false, .bool false, .bool false, .bool false, .bool false, .bool false, .bool false, .bool false, .bool false, .bool false, .bool false, .bool false, .bool false, .bool false, .bool false, .bool false, .bool false, .bool false, .bool false, .bool false, .bool false, .bool false, .bool false, .bool false, .bool false, .bool false, .bool false, .bool false, .bool false, .bool false, .bool false, .bool false, .bool false, .bool false, .bool false, .bool false, .bool false, .bool false, .bool false]), .fz (.bool false)], []))
 (onL (L_level_laid_1_0 R k w k a b a 0 (.ag [.bool false, .bool false, .bool false, .bool false, .bool false, .bool false, .bool false, .bool false, .bool false, .bool false, .bool false, .bool false, .bool false, .bool false, .bool false, .bool false, .bool false, .bool false, .bool false, .bool false, .bool false, .bool false, .bool false, .bool false, .bool false, .bool false, .bool false, .bool false, .bool false, .bool false, .bool false, .bool false, .bool false, .bool false, .bool false, .bool false, .bool false, .bool false, .bool false, .bool false, .bool false, .bool false, .bool false, .bool false, .bool false, .bool false, .bool false, .bool false, .bool false, .bool false, .bool false, .bool false, .bool false, .bool false, .bool false, .bool false, .bool false, .bool false, .bool false, .bool false, .bool false, .bool false, .bool false, .bool false]) (.ag [.bool false, .bool false, .bool false, .bool false, .bool false, .bool false, .bool false, .bool false, .bool false, .bool false, .bool false, .bool false, .bool false, .bool false, .bool false, .bool false, .bool false, .bool false, .bool false, .bool false, .bool false, .bool false, .bool false, .bool false, .bool false, .bool false, .bool false, .bool false, .bool false, .bool false, .bool false, .bool false, .bool false, .bool false, .bool false, .bool false, .bool false, .bool false, .bool false, .bool false, .bool false, .bool false, .bool false, .bool false, .bool false, .bool false, .bool false, .bool false, .bool false, .bool false, .bool false, .bool false, .bool false, .bool false, .bool false, .bool false, .bool false, .bool false, .bool false, .bool false, .bool false, .bool false, .bool false, .bool false])) (K_level_laid_1 R k w)) := by kernel_rfl
theorem L_level_laid_1_0_eq (R : Orc) (k : Nat) (w : Bool) (n : Nat) (a : Int) (b : List FV) (c d : Int) (e f : FV) : L_level_laid_1_0 R k w (n + 1) a b c d e f = ifB (decide (d < c))
 (when (decide (0 ≤ d) && decide (d < 8)) (when (decide (0 ≤ d) && decide (d < 8)) (when ((isAg 64 f) && true) (when (Nat.blt ((0 + ((Int.toNat d) * 8)) + ((Int.toNat d) * 1)) 64) (L_level_laid_1_0 R k w n a b c (IntKind.wrap .i64 (d + 1)) e (.ag (List.set (toAg f) ((0 + ((Int.toNat d) * 8)) + ((Int.toNat d) * 1)) (.bool true))))))))
 (some ((.exit 0), X_level_laid_1_0 a b e f)) := by kernel_rfl
theorem X_level_laid_1_0_eq (R : Orc) (k : Nat) (w : Bool) (a : Int) (b : List FV) (c d : FV) : K_level_laid_1 R k w (.exit 0) (X_level_laid_1_0 a b c d) = onL (L_level_laid_2_0 R k w k a b (List.length b : Int) 0 c d) (K_level_laid_2 R k w) := by kernel_rfl
theorem L_level_laid_2_0_eq (R : Orc) (k : Nat) (w : Bool) (n : Nat) (a : Int) (b : List FV) (c d : Int) (e f : FV) : L_level_laid_2_0 R k w (n + 1) a b c d e f = ifB (decide (d < c))
 (when ((decide (0 ≤ d)) && (decide (d < (List.length b : Int)))) (when (fits 2 true (List.getD b (Int.toNat d) nilp)) (when (fits 2 true (List.getD b (Int.toNat d) nilp)) (when (isAg 2 (List.getD b (Int.toNat d) nilp)) (when (isInt .i64 (cell (List.getD b (Int.toNat d) nilp) 0)) (ifB (decide ((toInt (cell (List.getD b (Int.toNat d) nilp) 0)) < 0))
 (when (fits 64 true f) (some (.ret, X_level_laid_2_0 false f f)))
 (when (isAg 2 (List.getD b (Int.toNat d) nilp)) (when (isInt .i64 (cell (List.getD b (Int.toNat d) nilp) 0)) (ifB (decide ((toInt (cell (List.getD b (Int.toNat d) nilp) 0)) ≥ a))
 (when (fits 64 true f) (some (.ret, X_level_laid_2_0 false f f)))
 (when (isAg 2 (List.getD b (Int.toNat d) nilp)) (when (isInt .i64 (cell (List.getD b (Int.toNat d) nilp) 1)) (ifB (decide ((toInt (cell (List.getD b (Int.toNat d) nilp) 1)) < 0))
 (when (fits 64 true f) (some (.ret, X_level_laid_2_0 false f f)))
 (when (isAg 2 (List.getD b (Int.toNat d) nilp)) (when (isInt .i64 (cell (List.getD b (Int.toNat d) nilp) 1)) (ifB (decide ((toInt (cell (List.getD b (Int.toNat d) nilp) 1)) ≥ a))
 (when (fits 64 true f) (some (.ret, X_level_laid_2_0 false f f)))
 (jump w (J_level_laid_1_0 R k w n a b c d e f (List.getD b (Int.toNat d) nilp))))))))))))))))))
 (some ((.exit 2), X_level_laid_2_1 e f)) := by kernel_rfl
theorem X_level_laid_2_0_eq (R : Orc) (k : Nat) (w a : Bool) (b c : FV) : K_level_laid_2 R k w .ret (X_level_laid_2_0 a b c) = some ([.fz b, .fz (.bool a)], []) := by kernel_rfl
theorem J_level_laid_1_0_eq (R : Orc) (k : Nat) (w : Bool) (n : Nat) (a : Int) (b : List FV) (c d : Int) (e f g : FV) : J_level_laid_1_0 R k w n a b c d e f g = when (isAg 2 g) (when (isInt .i64 (cell g 0)) (when (isAg 2 g) (when (isInt .i64 (cell g 1)) (when (decide (0 ≤ (toInt (cell g 0))) && decide ((toInt (cell g 0)) < 8)) (when (decide (0 ≤ (toInt (cell g 1))) && decide ((toInt (cell g 1)) < 8)) (when ((isAg 64 f) && true) (when (Nat.blt ((0 + ((Int.toNat (toInt (cell g 0))) * 8)) + ((Int.toNat (toInt (cell g 1))) * 1)) 64) (L_level_laid_2_0 R k w n a b c (IntKind.wrap .i64 (d + 1)) e (.ag (List.set (toAg f) ((0 + ((Int.toNat (toInt (cell g 0))) * 8)) + ((Int.toNat (toInt (cell g 1))) * 1)) (.bool true))))))))))) := by kernel_rfl
theorem X_level_laid_2_1_eq (R : Orc) (k : Nat) (w : Bool) (a b : FV) : K_level_laid_2 R k w (.exit 2) (X_level_laid_2_1 a b) = when (fits 64 true b) (some ([.fz b, .fz (.bool true)], [])) := by kernel_rfl
/-! keyhole/level.closed -/
def C_level_closed : ACode := codeOf 67 Try.f67
def A_level_closed_b1 : ACode := C_level_closed.at [1, 0, 0, 0, 1, 0, 1, 0, 0, 1, 1, 0, 0, 1, 1, 0, 0, 1, 1, 0, 0, 1, 1, 0, 0]
def A_level_closed_s1 : ACode := C_level_closed.at [1, 0, 0, 0, 1, 0, 1, 0, 0, 1, 1, 0, 0, 1, 1, 0, 0, 1, 1, 1]
def A_level_closed_b2 : ACode := C_level_closed.at [1, 0, 0, 0, 1, 0, 1, 0, 0, 1, 1, 0, 0, 1, 1, 0, 0]
def A_level_closed_s2 : ACode := C_level_closed.at [1, 0, 0, 0, 1, 0, 1, 0, 0, 1, 1, 1]
def A_level_closed_b3 : ACode := C_level_closed.at [1, 0, 0, 0, 1, 0, 1, 0, 0]
def A_level_closed_s3 : ACode := C_level_closed.at [1, 0, 0, 0, 1, 1]
def A_level_closed_b4 : ACode := C_level_closed.at [1, 0, 0]
def A_level_closed : AFunc := ⟨2, [(.cell 4 64 true, .fz)], C_level_closed, none⟩
def K_level_closed_4 (R : Orc) (k : Nat) (w : Bool) : AExit → St → Option Ans := (kBlk 0 (kFin R [(.cell 4 64 true, .fz)] []))
def L_level_closed_4_0 (R : Orc) (k : Nat) (w : Bool) (n : Nat) (a : Int) (b c : FV) := loopL R k w [] [1, 2, 4] [4] A_level_closed_b4 n ⟨[(1, .fz (.int .i64 a)), (2, .ptr 4096 0 0), (4, .ptr 4097 0 0)], [(4095, .dead), (4096, .var 64 true (.fz b)), (4097, .var 64 true (.fz c))]⟩
def K_level_closed_3 (R : Orc) (k : Nat) (w : Bool) (n : Nat) : AExit → St → Option (AExit × St) := (kBlk 2 (kSeq R k w [] A_level_closed_s3 (kBlk 1 (kLoop R k w [] [1, 2, 4] [4] A_level_closed_b4 n))))
def L_level_closed_3_0 (R : Orc) (k : Nat) (w : Bool) (n : Nat) (a b c : Int) (d e f : FV) := loopL R k w [] [1, 2, 4, 5, 10, 11] [1, 2, 4, 5] A_level_closed_b3 n ⟨[(1, .fz (.int .i64 a)), (2, .ptr 4096 0 0), (4, .ptr 4097 0 0), (5, .ptr 4098 0 0), (10, .fz (.int .i64 b)), (11, .fz (.int .i64 c))], [(4095, .dead), (4096, .var 64 true (.fz d)), (4097, .var 64 true (.fz e)), (4098, .var 64 true (.fz f))]⟩
def K_level_closed_2 (R : Orc) (k : Nat) (w : Bool) (n : Nat) : AExit → St → Option (AExit × St) := (kBlk 4 (kBlk 3 (kSeq R k w [] A_level_closed_s2 (kLoop R k w [] [1, 2, 4, 5, 10, 11] [1, 2, 4, 5] A_level_closed_b3 n))))
def L_level_closed_2_0 (R : Orc) (k : Nat) (w : Bool) (n : Nat) (a b c d e f : Int) (g h i : FV) := loopL R k w [] [1, 2, 4, 5, 6, 10, 11, 14, 15] [1, 2, 4, 5, 10, 11] A_level_closed_b2 n ⟨[(1, .fz (.int .i64 a)), (2, .ptr 4096 0 0), (4, .ptr 4097 0 0), (5, .ptr 4098 0 0), (6, .fz (.int .i64 b)), (10, .fz (.int .i64 c)), (11, .fz (.int .i64 d)), (14, .fz (.int .i64 e)), (15, .fz (.int .i64 f))], [(4095, .dead), (4096, .var 64 true (.fz g)), (4097, .var 64 true (.fz h)), (4098, .var 64 true (.fz i))]⟩
def X_level_closed_3_0 (a : Int) (b c d : FV) : St := ⟨[(1, .fz (.int .i64 a)), (2, .ptr 4096 0 0), (4, .ptr 4097 0 0), (5, .ptr 4098 0 0)], [(4095, .dead), (4096, .var 64 true (.fz b)), (4097, .var 64 true (.fz c)), (4098, .var 64 true (.fz d))]⟩
def K_level_closed_1 (R : Orc) (k : Nat) (w : Bool) (n : Nat) : AExit → St → Option (AExit × St) := (kBlk 6 (kBlk 5 (kSeq R k w [] A_level_closed_s1 (kLoop R k w [] [1, 2, 4, 5, 6, 10, 11, 14, 15] [1, 2, 4, 5, 10, 11] A_level_closed_b2 n))))
def L_level_closed_1_0 (R : Orc) (k : Nat) (w : Bool) (n : Nat) (a b c d e f g h i : Int) (j l m : FV) := loopL R k w [] [1, 2, 4, 5, 6, 7, 10, 11, 14, 15, 18, 19] [1, 2, 4, 5, 6, 10, 11, 14, 15] A_level_closed_b1 n ⟨[(1, .fz (.int .i64 a)), (2, .ptr 4096 0 0), (4, .ptr 4097 0 0), (5, .ptr 4098 0 0), (6, .fz (.int .i64 b)), (7, .fz (.int .i64 c)), (10, .fz (.int .i64 d)), (11, .fz (.int .i64 e)), (14, .fz (.int .i64 f)), (15, .fz (.int .i64 g)), (18, .fz (.int .i64 h)), (19, .fz (.int .i64 i))], [(4095, .dead), (4096, .var 64 true (.fz j)), (4097, .var 64 true (.fz l)), (4098, .var 64 true (.fz m))]⟩
def X_level_closed_2_0 (a b c : Int) (d e f : FV) : St := ⟨[(1, .fz (.int .i64 a)), (2, .ptr 4096 0 0), (4, .ptr 4097 0 0), (5, .ptr 4098 0 0), (10, .fz (.int .i64 b)), (11, .fz (.int .i64 c))], [(4095, .dead), (4096, .var 64 true (.fz d)), (4097, .var 64 true (.fz e)), (4098, .var 64 true (.fz f))]⟩
def X_level_closed_4_0 (a : FV) : St := ⟨[(4, .ptr 4096 0 0)], [(4095, .dead), (4096, .var 64 true (.fz a))]⟩
def X_level_closed_1_0 (a b c d e f : Int) (g h i : FV) : St := ⟨[(1, .fz (.int .i64 a)), (2, .ptr 4096 0 0), (4, .ptr 4097 0 0), (5, .ptr 4098 0 0), (6, .fz (.int .i64 b)), (10, .fz (.int .i64 c)), (11, .fz (.int .i64 d)), (14, .fz (.int .i64 e)), (15, .fz (.int .i64 f))], [(4095, .dead), (4096, .var 64 true (.fz g)), (4097, .var 64 true (.fz h)), (4098, .var 64 true (.fz i))]⟩
theorem E_level_closed (R : Orc) (k : Nat) (w : Bool) (a : FV) (b : Int) : callL R k w A_level_closed [.fz a, .fz (.int .i64 b)] = when (fits 64 true a) (onL (L_level_closed_4_0 R k w k b a (.ag [.bool false, .bool false, .bool false, .bool false, .bool false, .bool false, .bool false, .bool false, .bool false, .bool false, .bool false, .bool false, .bool false, .bool false, .bool false, .bool false, .bool false, .bool false, .bool false, .bool false, .bool false, .bool false, .bool false, .bool false, .bool false, .bool false, .bool false, .bool false, .bool false, .bool false, .bool false, .bool false, .bool false, .bool false, .bool false, .bool false, .bool false, .bool false, .bool false, .bool false, .bool false, .bool false, .bool false, .bool false, .bool false, .bool false, .bool false, .bool false, .bool false, .bool false, .bool false, .bool false, .bool false, .bool false, .bool false, .bool false, .bool false, .bool false, .bool false, .bool false, .bool false, .bool false, .bool false, .bool false])) (K_level_closed_4 R k w)) := by kernel_rfl
theorem L_level_closed_4_0_eq (R : Orc) (k : Nat) (w : Bool) (n : Nat) (a : Int) (b c : FV) : L_level_closed_4_0 R k w (n + 1) a b c = when (fits 64 true b) (onL (L_level_closed_3_0 R k w k a a 0 b c b) (K_level_closed_3 R k w n)) := by kernel_rfl
theorem L_level_closed_3_0_eq (R : Orc) (k : Nat) (w : Bool) (n : Nat) (a b c : Int) (d e f : FV) : L_level_closed_3_0 R k w (n + 1) a b c d e f = ifB (decide (c < b))
 (onL (L_level_closed_2_0 R k w k a c b c a 0 d e f) (K_level_closed_2 R k w n))
 (some ((.exit 2), X_level_closed_3_0 a d e f)) := by kernel_rfl
theorem L_level_closed_2_0_eq (R : Orc) (k : Nat) (w : Bool) (n : Nat) (a b c d e f : Int) (g h i : FV) : L_level_closed_2_0 R k w (n + 1) a b c d e f g h i = ifB (decide (f < e))
 (onL (L_level_closed_1_0 R k w k a b f c d e f a 0 g h i) (K_level_closed_1 R k w n))
 (some ((.exit 4), X_level_closed_2_0 a c d g h i)) := by kernel_rfl
theorem X_level_closed_3_0_eq (R : Orc) (k : Nat) (w : Bool) (n : Nat) (a : Int) (b c d : FV) : K_level_closed_3 R k w n (.exit 2) (X_level_closed_3_0 a b c d) = when ((isAg 64 b) && (isAg 64 d)) (when ((eksOk (List.replicate 64 (.bool)) (toAg b)) && (eksOk (List.replicate 64 (.bool)) (toAg d))) (ifB (eksEq (List.replicate 64 (.bool)) (toAg b) (toAg d))
 (when (fits 64 true b) (some (.ret, X_level_closed_4_0 b)))
 (L_level_closed_4_0 R k w n a b c))) := by kernel_rfl
theorem L_level_closed_1_0_eq (R : Orc) (k : Nat) (w : Bool) (n : Nat) (a b c d e f g h i : Int) (j l m : FV) : L_level_closed_1_0 R k w (n + 1) a b c d e f g h i j l m = ifB (decide (i < h))
 (when (decide (0 ≤ b) && decide (b < 8)) (when (decide (0 ≤ i) && decide (i < 8)) (when (isAg 64 j) (when (Nat.blt ((0 + ((Int.toNat b) * 8)) + ((Int.toNat i) * 1)) 64) (when (isBool (cell j ((0 + ((Int.toNat b) * 8)) + ((Int.toNat i) * 1)))) (ifB (toBool (cell j ((0 + ((Int.toNat b) * 8)) + ((Int.toNat i) * 1))))
 (when (decide (0 ≤ b) && decide (b < 8)) (when (decide (0 ≤ i) && decide (i < 8)) (when ((isAg 64 j) && true) (when (Nat.blt ((0 + ((Int.toNat b) * 8)) + ((Int.toNat i) * 1)) 64) (L_level_closed_1_0 R k w n a b c d e f g h (IntKind.wrap .i64 (i + 1)) (.ag (List.set (toAg j) ((0 + ((Int.toNat b) * 8)) + ((Int.toNat i) * 1)) (.bool true))) l m)))))
 (when (decide (0 ≤ b) && decide (b < 8)) (when (decide (0 ≤ c) && decide (c < 8)) (when (isAg 64 j) (when (Nat.blt ((0 + ((Int.toNat b) * 8)) + ((Int.toNat c) * 1)) 64) (when (isBool (cell j ((0 + ((Int.toNat b) * 8)) + ((Int.toNat c) * 1)))) (ifB (toBool (cell j ((0 + ((Int.toNat b) * 8)) + ((Int.toNat c) * 1))))
 (when (decide (0 ≤ c) && decide (c < 8)) (when (decide (0 ≤ i) && decide (i < 8)) (when (isAg 64 j) (when (Nat.blt ((0 + ((Int.toNat c) * 8)) + ((Int.toNat i) * 1)) 64) (when (isBool (cell j ((0 + ((Int.toNat c) * 8)) + ((Int.toNat i) * 1)))) (when (decide (0 ≤ b) && decide (b < 8)) (when (decide (0 ≤ i) && decide (i < 8)) (when ((isAg 64 j) && true) (when (Nat.blt ((0 + ((Int.toNat b) * 8)) + ((Int.toNat i) * 1)) 64) (L_level_closed_1_0 R k w n a b c d e f g h (IntKind.wrap .i64 (i + 1)) (.ag (List.set (toAg j) ((0 + ((Int.toNat b) * 8)) + ((Int.toNat i) * 1)) (.bool (toBool (cell j ((0 + ((Int.toNat c) * 8)) + ((Int.toNat i) * 1))))))) l m))))))))))
 (when (decide (0 ≤ b) && decide (b < 8)) (when (decide (0 ≤ i) && decide (i < 8)) (when ((isAg 64 j) && true) (when (Nat.blt ((0 + ((Int.toNat b) * 8)) + ((Int.toNat i) * 1)) 64) (L_level_closed_1_0 R k w n a b c d e f g h (IntKind.wrap .i64 (i + 1)) (.ag (List.set (toAg j) ((0 + ((Int.toNat b) * 8)) + ((Int.toNat i) * 1)) (.bool false))) l m)))))))))))))))))
 (some ((.exit 6), X_level_closed_1_0 a b d e f g j l m)) := by kernel_rfl
theorem X_level_closed_2_0_eq (R : Orc) (k : Nat) (w : Bool) (n : Nat) (a b c : Int) (d e f : FV) : K_level_closed_2 R k w n (.exit 4) (X_level_closed_2_0 a b c d e f) = L_level_closed_3_0 R k w n a b (IntKind.wrap .i64 (c + 1)) d e f := by kernel_rfl
theorem X_level_closed_4_0_eq (R : Orc) (k : Nat) (w : Bool) (a : FV) : K_level_closed_4 R k w .ret (X_level_closed_4_0 a) = some ([.fz a], []) := by kernel_rfl
theorem X_level_closed_1_0_eq (R : Orc) (k : Nat) (w : Bool) (n : Nat) (a b c d e f : Int) (g h i : FV) : K_level_closed_1 R k w n (.exit 6) (X_level_closed_1_0 a b c d e f g h i) = L_level_closed_2_0 R k w n a b c d e (IntKind.wrap .i64 (f + 1)) g h i := by kernel_rfl
/-! keyhole/level.twisted -/
def C_level_twisted : ACode := codeOf 68 Try.f68
def A_level_twisted_b1 : ACode := C_level_twisted.at [1, 0, 1, 0, 0, 1, 1, 0, 0, 1, 1, 0, 0]
def A_level_twisted_s1 : ACode := C_level_twisted.at [1, 0, 1, 0, 0, 1, 1, 1]
def A_level_twisted_b2 : ACode := C_level_twisted.at [1, 0, 1, 0, 0]
def A_level_twisted_s2 : ACode := C_level_twisted.at [1, 1]
def A_level_twisted : AFunc := ⟨2, [(.tmp 4, .fz)], C_level_twisted, none⟩
def K_level_twisted_2 (R : Orc) (k : Nat) (w : Bool) : AExit → St → Option Ans := (kBlk 0 (kSeq R k w [] A_level_twisted_s2 (kFin R [(.tmp 4, .fz)] [])))
def L_level_twisted_2_0 (R : Orc) (k : Nat) (w : Bool) (n : Nat) (a b : Int) (c : FV) := loopL R k w [] [2, 7, 8] [4] A_level_twisted_b2 n ⟨[(2, .ptr 4096 0 0), (7, .fz (.int .i64 a)), (8, .fz (.int .i64 b))], [(4095, .dead), (4096, .var 64 true (.fz c))]⟩
def K_level_twisted_1 (R : Orc) (k : Nat) (w : Bool) (n : Nat) : AExit → St → Option (AExit × St) := (kBlk 2 (kBlk 1 (kSeq R k w [] A_level_twisted_s1 (kLoop R k w [] [2, 7, 8] [4] A_level_twisted_b2 n))))
def L_level_twisted_1_0 (R : Orc) (k : Nat) (w : Bool) (n : Nat) (a b c d e : Int) (f : FV) := loopL R k w [] [2, 5, 7, 8, 11, 12] [2, 4, 7, 8] A_level_twisted_b1 n ⟨[(2, .ptr 4096 0 0), (5, .fz (.int .i64 a)), (7, .fz (.int .i64 b)), (8, .fz (.int .i64 c)), (11, .fz (.int .i64 d)), (12, .fz (.int .i64 e))], [(4095, .dead), (4096, .var 64 true (.fz f))]⟩
def X_level_twisted_2_0 : St := ⟨[], [(4095, .dead)]⟩
def X_level_twisted_1_0 (a : Bool) (b c : Int) (d : FV) : St := ⟨[(2, .ptr 4096 0 0), (4, .fz (.bool a)), (7, .fz (.int .i64 b)), (8, .fz (.int .i64 c))], [(4095, .dead), (4096, .var 64 true (.fz d))]⟩
def X_level_twisted_1_1 (a b : Int) (c : FV) : St := ⟨[(2, .ptr 4096 0 0), (7, .fz (.int .i64 a)), (8, .fz (.int .i64 b))], [(4095, .dead), (4096, .var 64 true (.fz c))]⟩
def X_level_twisted_2_1 (a : Bool) : St := ⟨[(4, .fz (.bool a))], [(4095, .dead)]⟩
theorem E_level_twisted (R : Orc) (k : Nat) (w : Bool) (a : FV) (b : Int) : callL R k w A_level_twisted [.fz a, .fz (.int .i64 b)] = when (fits 64 true a) (onL (L_level_twisted_2_0 R k w k b 0 a) (K_level_twisted_2 R k w)) := by kernel_rfl
theorem L_level_twisted_2_0_eq (R : Orc) (k : Nat) (w : Bool) (n : Nat) (a b : Int) (c : FV) : L_level_twisted_2_0 R k w (n + 1) a b c = ifB (decide (b < a))
 (onL (L_level_twisted_1_0 R k w k b a b b 0 c) (K_level_twisted_1 R k w n))
 (some ((.exit 0), X_level_twisted_2_0)) := by kernel_rfl
theorem L_level_twisted_1_0_eq (R : Orc) (k : Nat) (w : Bool) (n : Nat) (a b c d e : Int) (f : FV) : L_level_twisted_1_0 R k w (n + 1) a b c d e f = ifB (decide (e < d))
 (when (decide (0 ≤ a) && decide (a < 8)) (when (decide (0 ≤ e) && decide (e < 8)) (when (isAg 64 f) (when (Nat.blt ((0 + ((Int.toNat a) * 8)) + ((Int.toNat e) * 1)) 64) (when (isBool (cell f ((0 + ((Int.toNat a) * 8)) + ((Int.toNat e) * 1)))) (ifB (toBool (cell f ((0 + ((Int.toNat a) * 8)) + ((Int.toNat e) * 1))))
 (when (decide (0 ≤ e) && decide (e < 8)) (when (decide (0 ≤ a) && decide (a < 8)) (when (isAg 64 f) (when (Nat.blt ((0 + ((Int.toNat e) * 8)) + ((Int.toNat a) * 1)) 64) (when (isBool (cell f ((0 + ((Int.toNat e) * 8)) + ((Int.toNat a) * 1)))) (ifB (toBool (cell f ((0 + ((Int.toNat e) * 8)) + ((Int.toNat a) * 1))))
 (some (.ret, X_level_twisted_1_0 true b c f))
 (L_level_twisted_1_0 R k w n a b c d (IntKind.wrap .i64 (e + 1)) f)))))))
 (L_level_twisted_1_0 R k w n a b c d (IntKind.wrap .i64 (e + 1)) f)))))))
 (some ((.exit 2), X_level_twisted_1_1 b c f)) := by kernel_rfl
theorem X_level_twisted_2_0_eq (R : Orc) (k : Nat) (w : Bool) : K_level_twisted_2 R k w (.exit 0) (X_level_twisted_2_0) = some ([.fz (.bool false)], []) := by kernel_rfl
theorem X_level_twisted_1_0_eq (R : Orc) (k : Nat) (w : Bool) (n : Nat) (a : Bool) (b c : Int) (d : FV) : K_level_twisted_1 R k w n .ret (X_level_twisted_1_0 a b c d) = some (.ret, X_level_twisted_2_1 a) := by kernel_rfl
theorem X_level_twisted_1_1_eq (R : Orc) (k : Nat) (w : Bool) (n : Nat) (a b : Int) (c : FV) : K_level_twisted_1 R k w n (.exit 2) (X_level_twisted_1_1 a b c) = L_level_twisted_2_0 R k w n a (IntKind.wrap .i64 (b + 1)) c := by kernel_rfl
theorem X_level_twisted_2_1_eq (R : Orc) (k : Nat) (w a : Bool) : K_level_twisted_2 R k w .ret (X_level_twisted_2_1 a) = some ([.fz (.bool a)], []) := by kernel_rfl
/-! (*keyhole/level.Lattice).fill -/
def C_level_Lattice_fill : ACode := codeOf 69 Try.f69
def A_level_Lattice_fill_b1 : ACode := C_level_Lattice_fill.at [1, 1, 0, 1, 0, 0, 1, 1, 0, 0, 1, 1, 0, 0]
def A_level_Lattice_fill_s1 : ACode := C_level_Lattice_fill.at [1, 1, 0, 1, 0, 0, 1, 1, 1]
def A_level_Lattice_fill_b2 : ACode := C_level_Lattice_fill.at [1, 1, 0, 1, 0, 0]
def A_level_Lattice_fill_b3 : ACode := C_level_Lattice_fill.at [1, 1, 1, 0, 1, 0, 0]
def A_level_Lattice_fill_s2 : ACode := C_level_Lattice_fill.at [1, 1, 1, 1]
def A_level_Lattice_fill_s3 : ACode := C_level_Lattice_fill.at [1, 1, 1]
def A_level_Lattice_fill : AFunc := ⟨2, [(.tmp 4, .fz)], C_level_Lattice_fill, none⟩
def K_level_Lattice_fill_2 (R : Orc) (k : Nat) (w : Bool) : AExit → St → Option Ans := (kBlk 0 (kSeq R k w [0] A_level_Lattice_fill_s3 (kFin R [(.tmp 4, .fz)] [0])))
def L_level_Lattice_fill_2_0 (R : Orc) (k : Nat) (w : Bool) (n : Nat) (a b c : Int) (d e : FV) := loopL R k w [0] [0, 1, 5, 14, 15] [0, 1, 4] A_level_Lattice_fill_b2 n ⟨[(0, .ptr 0 0 0), (1, .fz (.int .i64 a)), (5, .ptr 4096 0 0), (14, .fz (.int .i64 b)), (15, .fz (.int .i64 c))], [(0, .var 195 true (.fz d)), (4095, .dead), (4096, .var 64 true (.fz e))]⟩
def K_level_Lattice_fill_1 (R : Orc) (k : Nat) (w : Bool) (n : Nat) : AExit → St → Option (AExit × St) := (kBlk 2 (kBlk 1 (kSeq R k w [0] A_level_Lattice_fill_s1 (kLoop R k w [0] [0, 1, 5, 14, 15] [0, 1, 4] A_level_Lattice_fill_b2 n))))
def L_level_Lattice_fill_1_0 (R : Orc) (k : Nat) (w : Bool) (n : Nat) (a b c d e f : Int) (g h : FV) := loopL R k w [0] [0, 1, 5, 6, 14, 15, 18, 19] [0, 1, 4, 5, 14, 15] A_level_Lattice_fill_b1 n ⟨[(0, .ptr 0 0 0), (1, .fz (.int .i64 a)), (5, .ptr 4096 0 0), (6, .fz (.int .i64 b)), (14, .fz (.int .i64 c)), (15, .fz (.int .i64 d)), (18, .fz (.int .i64 e)), (19, .fz (.int .i64 f))], [(0, .var 195 true (.fz g)), (4095, .dead), (4096, .var 64 true (.fz h))]⟩
def X_level_Lattice_fill_2_0 (a : Int) (b : FV) : St := ⟨[(0, .ptr 0 0 0), (1, .fz (.int .i64 a))], [(0, .var 195 true (.fz b)), (4095, .dead)]⟩
def X_level_Lattice_fill_1_0 (a : Int) (b : Bool) (c d : Int) (e f : FV) : St := ⟨[(0, .ptr 0 0 0), (1, .fz (.int .i64 a)), (4, .fz (.bool b)), (5, .ptr 4096 0 0), (14, .fz (.int .i64 c)), (15, .fz (.int .i64 d))], [(0, .var 195 true (.fz e)), (4095, .dead), (4096, .var 64 true (.fz f))]⟩
def X_level_Lattice_fill_1_1 (a b c : Int) (d e : FV) : St := ⟨[(0, .ptr 0 0 0), (1, .fz (.int .i64 a)), (5, .ptr 4096 0 0), (14, .fz (.int .i64 b)), (15, .fz (.int .i64 c))], [(0, .var 195 true (.fz d)), (4095, .dead), (4096, .var 64 true (.fz e))]⟩
def K_level_Lattice_fill_3 (R : Orc) (k : Nat) (w : Bool) : AExit → St → Option Ans := (kBlk 4 (kSeq R k w [0] A_level_Lattice_fill_s2 (kFin R [(.tmp 4, .fz)] [0])))
def L_level_Lattice_fill_3_0 (R : Orc) (k : Nat) (w : Bool) (n : Nat) (a b : Int) (c : FV) := loopL R k w [0] [0, 71, 72] [] A_level_Lattice_fill_b3 n ⟨[(0, .ptr 0 0 0), (71, .fz (.int .i64 a)), (72, .fz (.int .i64 b))], [(0, .var 195 true (.fz c)), (4095, .dead)]⟩
def X_level_Lattice_fill_2_1 (a : Int) (b : Bool) (c : FV) : St := ⟨[(0, .ptr 0 0 0), (1, .fz (.int .i64 a)), (4, .fz (.bool b))], [(0, .var 195 true (.fz c)), (4095, .dead)]⟩
def X_level_Lattice_fill_3_0 (a : FV) : St := ⟨[], [(0, .var 195 true (.fz a)), (4095, .dead)]⟩
theorem E_level_Lattice_fill (R : Orc) (k : Nat) (w : Bool) (a : FV) (b : Int) : callL R k w A_level_Lattice_fill [.pv 195 true (.fz a), .fz (.int .i64 b)] = when (isAg 195 a) (onR (R N_level_turned [.fz (.ag (List.map (fun j => cell a (1 + j)) (List.range 64)))]) fun r0 => when (List.isEmpty r0.2 && allF [.fz] r0.1) (when (fits 64 true (toF (List.getD r0.1 0 em))) (onL (L_level_Lattice_fill_2_0 R k w k b b 0 a (toF (List.getD r0.1 0 em))) (K_level_Lattice_fill_2 R k w)))) := by kernel_rfl
theorem L_level_Lattice_fill_2_0_eq (R : Orc) (k : Nat) (w : Bool) (n : Nat) (a b c : Int) (d e : FV) : L_level_Lattice_fill_2_0 R k w (n + 1) a b c d e = ifB (decide (c < b))
 (onL (L_level_Lattice_fill_1_0 R k w k a c b c a 0 d e) (K_level_Lattice_fill_1 R k w n))
 (some ((.exit 0), X_level_Lattice_fill_2_0 a d)) := by kernel_rfl
theorem L_level_Lattice_fill_1_0_eq (R : Orc) (k : Nat) (w : Bool) (n : Nat) (a b c d e f : Int) (g h : FV) : L_level_Lattice_fill_1_0 R k w (n + 1) a b c d e f g h = ifB (decide (f < e))
 (when (isAg 195 g) (onR (R N_level_over [.fz (.ag (List.map (fun j => cell g (1 + j)) (List.range 64))), .fz (.int .i64 a), .fz (.int .i64 b), .fz (.int .i64 f)]) fun r1 => when (List.isEmpty r1.2 && allF [.fz] r1.1) (when (isInt .i64 (toF (List.getD r1.1 0 em))) (when (decide (0 ≤ b) && decide (b < 8)) (when (decide (0 ≤ f) && decide (f < 8)) (when ((isAg 195 g) && true) (when (Nat.blt ((65 + ((Int.toNat b) * 8)) + ((Int.toNat f) * 1)) 195) (onR (R N_level_over [.fz h, .fz (.int .i64 a), .fz (.int .i64 b), .fz (.int .i64 f)]) fun r2 => when (List.isEmpty r2.2 && allF [.fz] r2.1) (when (isInt .i64 (toF (List.getD r2.1 0 em))) (when (decide (0 ≤ b) && decide (b < 8)) (when (decide (0 ≤ f) && decide (f < 8)) (when ((isAg 195 (.ag (List.set (toAg g) ((65 + ((Int.toNat b) * 8)) + ((Int.toNat f) * 1)) (.int .i64 (toInt (toF (List.getD r1.1 0 em))))))) && true) (when (Nat.blt ((129 + ((Int.toNat b) * 8)) + ((Int.toNat f) * 1)) 195) (when (decide (0 ≤ b) && decide (b < 8)) (when (decide (0 ≤ f) && decide (f < 8)) (when (isAg 195 (.ag (List.set (toAg (.ag (List.set (toAg g) ((65 + ((Int.toNat b) * 8)) + ((Int.toNat f) * 1)) (.int .i64 (toInt (toF (List.getD r1.1 0 em))))))) ((129 + ((Int.toNat b) * 8)) + ((Int.toNat f) * 1)) (.int .i64 (toInt (toF (List.getD r2.1 0 em))))))) (when (Nat.blt ((65 + ((Int.toNat b) * 8)) + ((Int.toNat f) * 1)) 195) (when (isInt .i64 (cell (.ag (List.set (toAg (.ag (List.set (toAg g) ((65 + ((Int.toNat b) * 8)) + ((Int.toNat f) * 1)) (.int .i64 (toInt (toF (List.getD r1.1 0 em))))))) ((129 + ((Int.toNat b) * 8)) + ((Int.toNat f) * 1)) (.int .i64 (toInt (toF (List.getD r2.1 0 em)))))) ((65 + ((Int.toNat b) * 8)) + ((Int.toNat f) * 1)))) (ifB (decide ((toInt (cell (.ag (List.set (toAg (.ag (List.set (toAg g) ((65 + ((Int.toNat b) * 8)) + ((Int.toNat f) * 1)) (.int .i64 (toInt (toF (List.getD r1.1 0 em))))))) ((129 + ((Int.toNat b) * 8)) + ((Int.toNat f) * 1)) (.int .i64 (toInt (toF (List.getD r2.1 0 em)))))) ((65 + ((Int.toNat b) * 8)) + ((Int.toNat f) * 1)))) < 0))
 (some (.ret, X_level_Lattice_fill_1_0 a false c d (.ag (List.set (toAg (.ag (List.set (toAg g) ((65 + ((Int.toNat b) * 8)) + ((Int.toNat f) * 1)) (.int .i64 (toInt (toF (List.getD r1.1 0 em))))))) ((129 + ((Int.toNat b) * 8)) + ((Int.toNat f) * 1)) (.int .i64 (toInt (toF (List.getD r2.1 0 em)))))) h))
 (when (decide (0 ≤ b) && decide (b < 8)) (when (decide (0 ≤ f) && decide (f < 8)) (when (isAg 195 (.ag (List.set (toAg (.ag (List.set (toAg g) ((65 + ((Int.toNat b) * 8)) + ((Int.toNat f) * 1)) (.int .i64 (toInt (toF (List.getD r1.1 0 em))))))) ((129 + ((Int.toNat b) * 8)) + ((Int.toNat f) * 1)) (.int .i64 (toInt (toF (List.getD r2.1 0 em))))))) (when (Nat.blt ((129 + ((Int.toNat b) * 8)) + ((Int.toNat f) * 1)) 195) (when (isInt .i64 (cell (.ag (List.set (toAg (.ag (List.set (toAg g) ((65 + ((Int.toNat b) * 8)) + ((Int.toNat f) * 1)) (.int .i64 (toInt (toF (List.getD r1.1 0 em))))))) ((129 + ((Int.toNat b) * 8)) + ((Int.toNat f) * 1)) (.int .i64 (toInt (toF (List.getD r2.1 0 em)))))) ((129 + ((Int.toNat b) * 8)) + ((Int.toNat f) * 1)))) (ifB (decide ((toInt (cell (.ag (List.set (toAg (.ag (List.set (toAg g) ((65 + ((Int.toNat b) * 8)) + ((Int.toNat f) * 1)) (.int .i64 (toInt (toF (List.getD r1.1 0 em))))))) ((129 + ((Int.toNat b) * 8)) + ((Int.toNat f) * 1)) (.int .i64 (toInt (toF (List.getD r2.1 0 em)))))) ((129 + ((Int.toNat b) * 8)) + ((Int.toNat f) * 1)))) < 0))
 (some (.ret, X_level_Lattice_fill_1_0 a false c d (.ag (List.set (toAg (.ag (List.set (toAg g) ((65 + ((Int.toNat b) * 8)) + ((Int.toNat f) * 1)) (.int .i64 (toInt (toF (List.getD r1.1 0 em))))))) ((129 + ((Int.toNat b) * 8)) + ((Int.toNat f) * 1)) (.int .i64 (toInt (toF (List.getD r2.1 0 em)))))) h))
 (L_level_Lattice_fill_1_0 R k w n a b c d e (IntKind.wrap .i64 (f + 1)) (.ag (List.set (toAg (.ag (List.set (toAg g) ((65 + ((Int.toNat b) * 8)) + ((Int.toNat f) * 1)) (.int .i64 (toInt (toF (List.getD r1.1 0 em))))))) ((129 + ((Int.toNat b) * 8)) + ((Int.toNat f) * 1)) (.int .i64 (toInt (toF (List.getD r2.1 0 em)))))) h))))))))))))))))))))))))))
 (some ((.exit 2), X_level_Lattice_fill_1_1 a c d g h)) := by kernel_rfl
theorem X_level_Lattice_fill_2_0_eq (R : Orc) (k : Nat) (w : Bool) (a : Int) (b : FV) : K_level_Lattice_fill_2 R k w (.exit 0) (X_level_Lattice_fill_2_0 a b) = onL (L_level_Lattice_fill_3_0 R k w k a 0 b) (K_level_Lattice_fill_3 R k w) := by kernel_rfl
theorem X_level_Lattice_fill_1_0_eq (R : Orc) (k : Nat) (w : Bool) (n : Nat) (a : Int) (b : Bool) (c d : Int) (e f : FV) : K_level_Lattice_fill_1 R k w n .ret (X_level_Lattice_fill_1_0 a b c d e f) = some (.ret, X_level_Lattice_fill_2_1 a b e) := by kernel_rfl
theorem X_level_Lattice_fill_1_1_eq (R : Orc) (k : Nat) (w : Bool) (n : Nat) (a b c : Int) (d e : FV) : K_level_Lattice_fill_1 R k w n (.exit 2) (X_level_Lattice_fill_1_1 a b c d e) = L_level_Lattice_fill_2_0 R k w n a b (IntKind.wrap .i64 (c + 1)) d e := by kernel_rfl
theorem L_level_Lattice_fill_3_0_eq (R : Orc) (k : Nat) (w : Bool) (n : Nat) (a b : Int) (c : FV) : L_level_Lattice_fill_3_0 R k w (n + 1) a b c = ifB (decide (b < a))
 (when (isAg 195 c) (when (isInt .i64 (cell c 193)) (when (decide (0 ≤ (toInt (cell c 193))) && decide ((toInt (cell c 193)) < 8)) (when (decide (0 ≤ b) && decide (b < 8)) (when (isAg 195 c) (when (Nat.blt ((129 + ((Int.toNat (toInt (cell c 193))) * 8)) + ((Int.toNat b) * 1)) 195) (when (isInt .i64 (cell c ((129 + ((Int.toNat (toInt (cell c 193))) * 8)) + ((Int.toNat b) * 1)))) (when ((isAg 195 c) && true) (when (isAg 195 (.ag (List.set (toAg c) 193 (.int .i64 (toInt (cell c ((129 + ((Int.toNat (toInt (cell c 193))) * 8)) + ((Int.toNat b) * 1)))))))) (when (isInt .i64 (cell (.ag (List.set (toAg c) 193 (.int .i64 (toInt (cell c ((129 + ((Int.toNat (toInt (cell c 193))) * 8)) + ((Int.toNat b) * 1))))))) 194)) (when (decide (0 ≤ (toInt (cell (.ag (List.set (toAg c) 193 (.int .i64 (toInt (cell c ((129 + ((Int.toNat (toInt (cell c 193))) * 8)) + ((Int.toNat b) * 1))))))) 194))) && decide ((toInt (cell (.ag (List.set (toAg c) 193 (.int .i64 (toInt (cell c ((129 + ((Int.toNat (toInt (cell c 193))) * 8)) + ((Int.toNat b) * 1))))))) 194)) < 8)) (when (decide (0 ≤ b) && decide (b < 8)) (when (isAg 195 (.ag (List.set (toAg c) 193 (.int .i64 (toInt (cell c ((129 + ((Int.toNat (toInt (cell c 193))) * 8)) + ((Int.toNat b) * 1)))))))) (when (Nat.blt ((65 + ((Int.toNat (toInt (cell (.ag (List.set (toAg c) 193 (.int .i64 (toInt (cell c ((129 + ((Int.toNat (toInt (cell c 193))) * 8)) + ((Int.toNat b) * 1))))))) 194))) * 8)) + ((Int.toNat b) * 1)) 195) (when (isInt .i64 (cell (.ag (List.set (toAg c) 193 (.int .i64 (toInt (cell c ((129 + ((Int.toNat (toInt (cell c 193))) * 8)) + ((Int.toNat b) * 1))))))) ((65 + ((Int.toNat (toInt (cell (.ag (List.set (toAg c) 193 (.int .i64 (toInt (cell c ((129 + ((Int.toNat (toInt (cell c 193))) * 8)) + ((Int.toNat b) * 1))))))) 194))) * 8)) + ((Int.toNat b) * 1)))) (when ((isAg 195 (.ag (List.set (toAg c) 193 (.int .i64 (toInt (cell c ((129 + ((Int.toNat (toInt (cell c 193))) * 8)) + ((Int.toNat b) * 1)))))))) && true) (L_level_Lattice_fill_3_0 R k w n a (IntKind.wrap .i64 (b + 1)) (.ag (List.set (toAg (.ag (List.set (toAg c) 193 (.int .i64 (toInt (cell c ((129 + ((Int.toNat (toInt (cell c 193))) * 8)) + ((Int.toNat b) * 1)))))))) 194 (.int .i64 (toInt (cell (.ag (List.set (toAg c) 193 (.int .i64 (toInt (cell c ((129 + ((Int.toNat (toInt (cell c 193))) * 8)) + ((Int.toNat b) * 1))))))) ((65 + ((Int.toNat (toInt (cell (.ag (List.set (toAg c) 193 (.int .i64 (toInt (cell c ((129 + ((Int.toNat (toInt (cell c 193))) * 8)) + ((Int.toNat b) * 1))))))) 194))) * 8)) + ((Int.toNat b) * 1))))))))))))))))))))))))
 (some ((.exit 4), X_level_Lattice_fill_3_0 c)) := by kernel_rfl
theorem X_level_Lattice_fill_2_1_eq (R : Orc) (k : Nat) (w : Bool) (a : Int) (b : Bool) (c : FV) : K_level_Lattice_fill_2 R k w .ret (X_level_Lattice_fill_2_1 a b c) = some ([.fz (.bool b)], [.fz c]) := by kernel_rfl
theorem X_level_Lattice_fill_3_0_eq (R : Orc) (k : Nat) (w : Bool) (a : FV) : K_level_Lattice_fill_3 R k w (.exit 4) (X_level_Lattice_fill_3_0 a) = some ([.fz (.bool true)], [.fz a]) := by kernel_rfl
/-! keyhole/keyholeref05.Is -/
def C_ref05_Is : ACode := codeOf 70 Try.f70
def A_ref05_Is_b1 : ACode := C_ref05_Is.at [1, 1, 0, 1, 1, 0, 0, 1, 0, 0]
def A_ref05_Is_b2 : ACode := C_ref05_Is.at [1, 1, 0, 1, 1, 0, 1, 0, 1, 0, 0]
def A_ref05_Is_s1 : ACode := C_ref05_Is.at [1, 1, 0, 1, 1, 0, 1, 1]
def A_ref05_Is_s2 : ACode := C_ref05_Is.at [1, 1, 0, 1, 1, 0, 1]
def A_ref05_Is_j3 : ACode := C_ref05_Is.at [1, 1, 0, 1, 1, 0]
def A_ref05_Is_j4 : ACode := C_ref05_Is.at [1, 1, 0]
def A_ref05_Is : AFunc := ⟨2, [(.tmp 4, .fz)], C_ref05_Is, none⟩
def J_ref05_Is_4_0 (R : Orc) (k : Nat) (w : Bool) (a b c d : Int) (e : ByteArray) (f g : List FV) := execL R k w [] A_ref05_Is_j4 Ans ⟨[(1, .fz (.int .i64 a)), (2, .ptr 4096 0 0)], [(4095, .dead), (4096, .var 6 true (.fz (.ag [.int .i64 b, .int .i64 c, .int .i64 d, .str e, .sl f, .sl g])))]⟩ (kFin R [(.tmp 4, .fz)] [])
def J_ref05_Is_3_0 (R : Orc) (k : Nat) (w : Bool) (a b c d : Int) (e : ByteArray) (f g : List FV) := execL R k w [] A_ref05_Is_j3 Ans ⟨[(1, .fz (.int .i64 a)), (2, .ptr 4096 0 0)], [(4095, .dead), (4096, .var 6 true (.fz (.ag [.int .i64 b, .int .i64 c, .int .i64 d, .str e, .sl f, .sl g])))]⟩ (kFin R [(.tmp 4, .fz)] [])
def K_ref05_Is_1 (R : Orc) (k : Nat) (w : Bool) : AExit → St → Option Ans := (kBlk 0 (kSeq R k w [] A_ref05_Is_s2 (kFin R [(.tmp 4, .fz)] [])))
def L_ref05_Is_1_0 (R : Orc) (k : Nat) (w : Bool) (n : Nat) (a b c d e : Int) (f : ByteArray) (g h : List FV) := loopL R k w [] [1, 2, 7] [1, 2, 4] A_ref05_Is_b1 n ⟨[(1, .fz (.int .i64 a)), (2, .ptr 4096 0 0), (7, .fz (.int .i64 b))], [(4095, .dead), (4096, .var 6 true (.fz (.ag [.int .i64 c, .int .i64 d, .int .i64 e, .str f, .sl g, .sl h])))]⟩
def X_ref05_Is_1_0 (a : Int) (b : Bool) (c d e : Int) (f : ByteArray) (g h : List FV) : St := ⟨[(1, .fz (.int .i64 a)), (2, .ptr 4096 0 0), (4, .fz (.bool b))], [(4095, .dead), (4096, .var 6 true (.fz (.ag [.int .i64 c, .int .i64 d, .int .i64 e, .str f, .sl g, .sl h])))]⟩
def X_ref05_Is_1_1 (a b c d : Int) (e : ByteArray) (f g : List FV) : St := ⟨[(1, .fz (.int .i64 a)), (2, .ptr 4096 0 0)], [(4095, .dead), (4096, .var 6 true (.fz (.ag [.int .i64 b, .int .i64 c, .int .i64 d, .str e, .sl f, .sl g])))]⟩
def K_ref05_Is_2 (R : Orc) (k : Nat) (w : Bool) : AExit → St → Option Ans := (kBlk 2 (kSeq R k w [] A_ref05_Is_s1 (kFin R [(.tmp 4, .fz)] [])))
def L_ref05_Is_2_0 (R : Orc) (k : Nat) (w : Bool) (n : Nat) (a b c d e : Int) (f : ByteArray) (g h : List FV) := loopL R k w [] [1, 2, 10] [4] A_ref05_Is_b2 n ⟨[(1, .fz (.int .i64 a)), (2, .ptr 4096 0 0), (10, .fz (.int .i64 b))], [(4095, .dead), (4096, .var 6 true (.fz (.ag [.int .i64 c, .int .i64 d, .int .i64 e, .str f, .sl g, .sl h])))]⟩
def X_ref05_Is_2_0 (a : Bool) : St := ⟨[(4, .fz (.bool a))], [(4095, .dead)]⟩
def X_ref05_Is_2_1 : St := ⟨[], [(4095, .dead)]⟩
theorem E_ref05_Is (R : Orc) (k : Nat) (w : Bool) (a b c : Int) (d : ByteArray) (e f : List FV) (g : Int) : callL R k w A_ref05_Is [.fz (.ag [.int .i64 a, .int .i64 b, .int .i64 c, .str d, .sl e, .sl f]), .fz (.int .i64 g)] = ifB (decide (a < 0))
 (some ([.fz (.bool false)], []))
 (ifB (decide (a > 7))
 (some ([.fz (.bool false)], []))
 (onR (R N_ref05_zero [.fz (.ag [.int .i64 a, .int .i64 b, .int .i64 c, .str d, .sl e, .sl f])]) fun r0 => when (List.isEmpty r0.2 && allF [.fz] r0.1) (when (isBool (toF (List.getD r0.1 0 em))) (ifB (!(toBool (toF (List.getD r0.1 0 em))))
 (some ([.fz (.bool false)], []))
 (ifB (decide (g > 32))
 (some ([.fz (.bool false)], []))
 (jump w (J_ref05_Is_4_0 R k w g a b c d e f))))))) := by kernel_rfl
theorem J_ref05_Is_4_0_eq (R : Orc) (k : Nat) (w : Bool) (a b c d : Int) (e : ByteArray) (f g : List FV) : J_ref05_Is_4_0 R k w a b c d e f g = onR (R N_ref03_Signs [.fz (.str e)]) fun r1 => when (List.isEmpty r1.2 && allF [.fz, .fz] r1.1) (when (isBool (toF (List.getD r1.1 1 em))) (ifB (!(toBool (toF (List.getD r1.1 1 em))))
 (some ([.fz (.bool false)], []))
 (ifB (b == 3)
 (onR (R N_ref04_Is [.fz (.ag [.int .i64 c, .int .i64 d])]) fun r2 => when (List.isEmpty r2.2 && allF [.fz] r2.1) (when (isBool (toF (List.getD r2.1 0 em))) (ifB (!(toBool (toF (List.getD r2.1 0 em))))
 (some ([.fz (.bool false)], []))
 (ifB (b == 6)
 (ifB ((List.length g : Int) != (List.length f : Int))
 (some ([.fz (.bool false)], []))
 (jump w (J_ref05_Is_3_0 R k w a b c d e f g)))
 (jump w (J_ref05_Is_3_0 R k w a b c d e f g))))))
 (ifB (b == 6)
 (ifB ((List.length g : Int) != (List.length f : Int))
 (some ([.fz (.bool false)], []))
 (jump w (J_ref05_Is_3_0 R k w a b c d e f g)))
 (jump w (J_ref05_Is_3_0 R k w a b c d e f g)))))) := by kernel_rfl
theorem J_ref05_Is_3_0_eq (R : Orc) (k : Nat) (w : Bool) (a b c d : Int) (e : ByteArray) (f g : List FV) : J_ref05_Is_3_0 R k w a b c d e f g = onL (L_ref05_Is_1_0 R k w k a 0 b c d e f g) (K_ref05_Is_1 R k w) := by kernel_rfl
theorem L_ref05_Is_1_0_eq (R : Orc) (k : Nat) (w : Bool) (n : Nat) (a b c d e : Int) (f : ByteArray) (g h : List FV) : L_ref05_Is_1_0 R k w (n + 1) a b c d e f g h = ifB (decide (b < (List.length h : Int)))
 (when ((decide (0 ≤ b)) && (decide (b < (List.length h : Int)))) (when (fits 1 false (List.getD h (Int.toNat b) nilp)) (when (isStr (List.getD h (Int.toNat b) nilp)) (onR (R N_ref03_Signs [.fz (.str (toStr (List.getD h (Int.toNat b) nilp)))]) fun r3 => when (List.isEmpty r3.2 && allF [.fz, .fz] r3.1) (when (isBool (toF (List.getD r3.1 1 em))) (ifB (!(toBool (toF (List.getD r3.1 1 em))))
 (some (.ret, X_ref05_Is_1_0 a false c d e f g h))
 (ifB (decide (b > 0))
 (when ((decide (0 ≤ b)) && (decide (b < (List.length h : Int)))) (when (fits 1 false (List.getD h (Int.toNat b) nilp)) (when (isStr (List.getD h (Int.toNat b) nilp)) (when ((decide (0 ≤ (IntKind.wrap .i64 (b - 1)))) && (decide ((IntKind.wrap .i64 (b - 1)) < (List.length h : Int)))) (when (fits 1 false (List.getD h (Int.toNat (IntKind.wrap .i64 (b - 1))) nilp)) (when (isStr (List.getD h (Int.toNat (IntKind.wrap .i64 (b - 1))) nilp)) (ifB (Op.bytesLess (ByteArray.toList (toStr (List.getD h (Int.toNat b) nilp))) (ByteArray.toList (toStr (List.getD h (Int.toNat (IntKind.wrap .i64 (b - 1))) nilp))) || ByteArray.toList (toStr (List.getD h (Int.toNat b) nilp)) == ByteArray.toList (toStr (List.getD h (Int.toNat (IntKind.wrap .i64 (b - 1))) nilp)))
 (some (.ret, X_ref05_Is_1_0 a false c d e f g h))
 (L_ref05_Is_1_0 R k w n a (IntKind.wrap .i64 (b + 1)) c d e f g h))))))))
 (L_ref05_Is_1_0 R k w n a (IntKind.wrap .i64 (b + 1)) c d e f g h))))))))
 (some ((.exit 0), X_ref05_Is_1_1 a c d e f g h)) := by kernel_rfl
theorem X_ref05_Is_1_0_eq (R : Orc) (k : Nat) (w : Bool) (a : Int) (b : Bool) (c d e : Int) (f : ByteArray) (g h : List FV) : K_ref05_Is_1 R k w .ret (X_ref05_Is_1_0 a b c d e f g h) = some ([.fz (.bool b)], []) := by kernel_rfl
theorem X_ref05_Is_1_1_eq (R : Orc) (k : Nat) (w : Bool) (a b c d : Int) (e : ByteArray) (f g : List FV) : K_ref05_Is_1 R k w (.exit 0) (X_ref05_Is_1_1 a b c d e f g) = onL (L_ref05_Is_2_0 R k w k a 0 b c d e f g) (K_ref05_Is_2 R k w) := by kernel_rfl
theorem L_ref05_Is_2_0_eq (R : Orc) (k : Nat) (w : Bool) (n : Nat) (a b c d e : Int) (f : ByteArray) (g h : List FV) : L_ref05_Is_2_0 R k w (n + 1) a b c d e f g h = ifB (decide (b < (List.length g : Int)))
 (when ((decide (0 ≤ b)) && (decide (b < (List.length g : Int)))) (when (fits 6 true (List.getD g (Int.toNat b) nilp)) (when (isAg 6 (List.getD g (Int.toNat b) nilp)) (when (isInt .i64 (cell (List.getD g (Int.toNat b) nilp) 0)) (ifB ((toInt (cell (List.getD g (Int.toNat b) nilp) 0)) == 7)
 (some (.ret, X_ref05_Is_2_0 false))
 (when ((decide (0 ≤ b)) && (decide (b < (List.length g : Int)))) (when (fits 6 true (List.getD g (Int.toNat b) nilp)) (onR (R N_ref05_Is [.fz (List.getD g (Int.toNat b) nilp), .fz (.int .i64 (IntKind.wrap .i64 (a + 1)))]) fun r4 => when (List.isEmpty r4.2 && allF [.fz] r4.1) (when (isBool (toF (List.getD r4.1 0 em))) (ifB (!(toBool (toF (List.getD r4.1 0 em))))
 (some (.ret, X_ref05_Is_2_0 false))
 (L_ref05_Is_2_0 R k w n a (IntKind.wrap .i64 (b + 1)) c d e f g h)))))))))))
 (some ((.exit 2), X_ref05_Is_2_1)) := by kernel_rfl
theorem X_ref05_Is_2_0_eq (R : Orc) (k : Nat) (w a : Bool) : K_ref05_Is_2 R k w .ret (X_ref05_Is_2_0 a) = some ([.fz (.bool a)], []) := by kernel_rfl
theorem X_ref05_Is_2_1_eq (R : Orc) (k : Nat) (w : Bool) : K_ref05_Is_2 R k w (.exit 2) (X_ref05_Is_2_1) = some ([.fz (.bool true)], []) := by kernel_rfl
/-! (*keyhole/level.Lattice).Bottom -/
def C_level_Lattice_Bottom : ACode := codeOf 71 Try.f71
def A_level_Lattice_Bottom : AFunc := ⟨1, [(.tmp 2, .fz)], C_level_Lattice_Bottom, none⟩
theorem E_level_Lattice_Bottom (R : Orc) (k : Nat) (w : Bool) (a : FV) : callL R k w A_level_Lattice_Bottom [.fz (.pt 195 true a 0)] = when (isAg 195 a) (when (isInt .i64 (cell a 193)) (some ([.fz (.int .i64 (toInt (cell a 193)))], []))) := by kernel_rfl
/-! slices.IndexFunc[[]string,string] -/
def C_slices_IndexFunc___string_string_ : ACode := codeOf 72 Try.f72
def A_slices_IndexFunc___string_string__b1 : ACode := C_slices_IndexFunc___string_string_.at [1, 0, 1, 0, 0]
def A_slices_IndexFunc___string_string__s1 : ACode := C_slices_IndexFunc___string_string_.at [1, 1]
def A_slices_IndexFunc___string_string_ : AFunc := ⟨2, [(.tmp 4, .fz)], C_slices_IndexFunc___string_string_, none⟩
def K_slices_IndexFunc___string_string__1 (R : Orc) (k : Nat) (w : Bool) : AExit → St → Option Ans := (kBlk 0 (kSeq R k w [] A_slices_IndexFunc___string_string__s1 (kFin R [(.tmp 4, .fz)] [])))
def L_slices_IndexFunc___string_string__1_0 (R : Orc) (k : Nat) (w : Bool) (n : Nat) (a : List FV) (b : FV) (c d : Int) := loopL R k w [] [0, 1, 7, 8] [4] A_slices_IndexFunc___string_string__b1 n ⟨[(0, .fz (.sl a)), (1, .fz b), (7, .fz (.int .i64 c)), (8, .fz (.int .i64 d))], [(4095, .dead)]⟩
def X_slices_IndexFunc___string_string__1_0 (a : Int) : St := ⟨[(4, .fz (.int .i64 a))], [(4095, .dead)]⟩
def X_slices_IndexFunc___string_string__1_1 : St := ⟨[], [(4095, .dead)]⟩
theorem E_slices_IndexFunc___string_string_ (R : Orc) (k : Nat) (w : Bool) (a : List FV) (b : FV) : callL R k w A_slices_IndexFunc___string_string_ [.fz (.sl a), .fz b] = onL (L_slices_IndexFunc___string_string__1_0 R k w k a b (List.length a : Int) 0) (K_slices_IndexFunc___string_string__1 R k w) := by kernel_rfl
theorem L_slices_IndexFunc___string_string__1_0_eq (R : Orc) (k : Nat) (w : Bool) (n : Nat) (a : List FV) (b : FV) (c d : Int) : L_slices_IndexFunc___string_string__1_0 R k w (n + 1) a b c d = ifB (decide (d < c))
 (when ((decide (0 ≤ d)) && (decide (d < (List.length a : Int)))) (when (fits 1 false (List.getD a (Int.toNat d) nilp)) (when (isStr (List.getD a (Int.toNat d) nilp)) (when (FV.isFn b) (onR (R (FV.fnN b) (List.map TV.fz ([(.str (toStr (List.getD a (Int.toNat d) nilp)))] ++ FV.fnC b))) fun r0 => when (List.isEmpty r0.2 && allF [.fz] r0.1) (when (isBool (toF (List.getD r0.1 0 em))) (ifB (toBool (toF (List.getD r0.1 0 em)))
 (some (.ret, X_slices_IndexFunc___string_string__1_0 d))
 (L_slices_IndexFunc___string_string__1_0 R k w n a b c (IntKind.wrap .i64 (d + 1))))))))))
 (some ((.exit 0), X_slices_IndexFunc___string_string__1_1)) := by kernel_rfl
theorem X_slices_IndexFunc___string_string__1_0_eq (R : Orc) (k : Nat) (w : Bool) (a : Int) : K_slices_IndexFunc___string_string__1 R k w .ret (X_slices_IndexFunc___string_string__1_0 a) = some ([.fz (.int .i64 a)], []) := by kernel_rfl
theorem X_slices_IndexFunc___string_string__1_1_eq (R : Orc) (k : Nat) (w : Bool) : K_slices_IndexFunc___string_string__1 R k w (.exit 0) (X_slices_IndexFunc___string_string__1_1) = some ([.fz (.int .i64 (-1))], []) := by kernel_rfl
/-! (*keyhole/level.Lattice).Top -/
def C_level_Lattice_Top : ACode := codeOf 75 Try.f75
def A_level_Lattice_Top : AFunc := ⟨1, [(.tmp 2, .fz)], C_level_Lattice_Top, none⟩
theorem E_level_Lattice_Top (R : Orc) (k : Nat) (w : Bool) (a : FV) : callL R k w A_level_Lattice_Top [.fz (.pt 195 true a 0)] = when (isAg 195 a) (when (isInt .i64 (cell a 194)) (some ([.fz (.int .i64 (toInt (cell a 194)))], []))) := by kernel_rfl
/-! cmp.Less[string] -/
def C_cmp_Less_string_ : ACode := codeOf 76 Try.f76
def A_cmp_Less_string_ : AFunc := ⟨2, [(.tmp 4, .fz)], C_cmp_Less_string_, none⟩
theorem E_cmp_Less_string_ (R : Orc) (k : Nat) (w : Bool) (a b : ByteArray) : callL R k w A_cmp_Less_string_ [.fz (.str a), .fz (.str b)] = onR (R N_cmp_isNaN_string_ [.fz (.str a)]) fun r0 => when (List.isEmpty r0.2 && allF [.fz] r0.1) (when (isBool (toF (List.getD r0.1 0 em))) (ifB (toBool (toF (List.getD r0.1 0 em)))
 (onR (R N_cmp_isNaN_string_ [.fz (.str b)]) fun r1 => when (List.isEmpty r1.2 && allF [.fz] r1.1) (when (isBool (toF (List.getD r1.1 0 em))) (ifB (!(toBool (toF (List.getD r1.1 0 em))))
 (some ([.fz (.bool true)], []))
 (some ([.fz (.bool (Op.bytesLess (ByteArray.toList a) (ByteArray.toList b)))], [])))))
 (some ([.fz (.bool (Op.bytesLess (ByteArray.toList a) (ByteArray.toList b)))], [])))) := by kernel_rfl
/-! slices.isNaN[string] -/
def C_slices_isNaN_string_ : ACode := codeOf 77 Try.f77
def A_slices_isNaN_string_ : AFunc := ⟨1, [(.tmp 2, .fz)], C_slices_isNaN_string_, none⟩
theorem E_slices_isNaN_string_ (R : Orc) (k : Nat) (w : Bool) (a : ByteArray) : callL R k w A_slices_isNaN_string_ [.fz (.str a)] = some ([.fz (.bool (!(ByteArray.toList a == ByteArray.toList a)))], []) := by kernel_rfl
/-! (*keyhole/level.Lattice).Size -/
def C_level_Lattice_Size : ACode := codeOf 78 Try.f78
def A_level_Lattice_Size : AFunc := ⟨1, [(.tmp 2, .fz)], C_level_Lattice_Size, none⟩
theorem E_level_Lattice_Size (R : Orc) (k : Nat) (w : Bool) (a : FV) : callL R k w A_level_Lattice_Size [.fz (.pt 195 true a 0)] = when (isAg 195 a) (when (isSl (cell a 0)) (some ([.fz (.int .i64 (List.length (toSl (cell a 0)) : Int))], []))) := by kernel_rfl
/-! keyhole/level.Name -/
def C_level_Name : ACode := codeOf 79 Try.f79
def A_level_Name_j1 : ACode := C_level_Name.at [1, 1, 0, 0, 1, 0, 0, 1, 1, 0, 0, 1, 1, 1, 0, 1, 0]
def A_level_Name_j2 : ACode := C_level_Name.at [1, 1, 0, 0, 1, 0, 0, 1, 1, 0, 0, 1, 1, 1, 0]
def A_level_Name_s3 : ACode := C_level_Name.at [1, 1, 0, 0, 1, 0, 0, 1, 1, 1]
def A_level_Name_b1 : ACode := C_level_Name.at [1, 1, 0, 0, 1, 0, 0]
def A_level_Name_s4 : ACode := C_level_Name.at [1, 1, 0, 1]
def A_level_Name_j5 : ACode := C_level_Name.at [1, 1, 0]
def A_level_Name : AFunc := ⟨1, [(.tmp 2, .fz)], C_level_Name, none⟩
def J_level_Name_5_0 (R : Orc) (k : Nat) (w : Bool) (a : ByteArray) := execL R k w [] A_level_Name_j5 Ans ⟨[(0, .fz (.str a))], [(4095, .dead)]⟩ (kFin R [(.tmp 2, .fz)] [])
def K_level_Name_1 (R : Orc) (k : Nat) (w : Bool) : AExit → St → Option Ans := (kBlk 0 (kSeq R k w [] A_level_Name_s4 (kFin R [(.tmp 2, .fz)] [])))
def L_level_Name_1_0 (R : Orc) (k : Nat) (w : Bool) (n : Nat) (a : ByteArray) (b c : Int) := loopL R k w [] [0, 15, 16] [2] A_level_Name_b1 n ⟨[(0, .fz (.str a)), (15, .fz (.int .i64 b)), (16, .fz (.int .i64 c))], [(4095, .dead)]⟩
def J_level_Name_2_0 (R : Orc) (k : Nat) (w : Bool) (n : Nat) (a : ByteArray) (b c : Int) (d : Bool) (e f : Int) := execL R k w [] A_level_Name_j2 (AExit × St) ⟨[(0, .fz (.str a)), (3, .fz (.int .i64 b)), (4, .fz (.int .u8 c)), (5, .fz (.bool d)), (15, .fz (.int .i64 e)), (16, .fz (.int .i64 f))], [(4095, .dead)]⟩ (kBlk 1 (kSeq R k w [] A_level_Name_s3 (kLoop R k w [] [0, 15, 16] [2] A_level_Name_b1 n)))
def X_level_Name_1_0 : St := ⟨[], [(4095, .dead)]⟩
def J_level_Name_1_0 (R : Orc) (k : Nat) (w : Bool) (n : Nat) (a : ByteArray) (b : Int) (c d : Bool) (e f : Int) := execL R k w [] A_level_Name_j1 (AExit × St) ⟨[(0, .fz (.str a)), (3, .fz (.int .i64 b)), (5, .fz (.bool c)), (6, .fz (.bool d)), (15, .fz (.int .i64 e)), (16, .fz (.int .i64 f))], [(4095, .dead)]⟩ (kBlk 1 (kSeq R k w [] A_level_Name_s3 (kLoop R k w [] [0, 15, 16] [2] A_level_Name_b1 n)))
def X_level_Name_1_1 (a : Bool) : St := ⟨[(2, .fz (.bool a))], [(4095, .dead)]⟩
theorem E_level_Name (R : Orc) (k : Nat) (w : Bool) (a : ByteArray) : callL R k w A_level_Name [.fz (.str a)] = ifB (ByteArray.toList a == ByteArray.toList (⟨#[]⟩ : ByteArray))
 (some ([.fz (.bool false)], []))
 (ifB (decide ((ByteArray.size a : Int) > 16))
 (some ([.fz (.bool false)], []))
 (jump w (J_level_Name_5_0 R k w a))) := by kernel_rfl
theorem J_level_Name_5_0_eq (R : Orc) (k : Nat) (w : Bool) (a : ByteArray) : J_level_Name_5_0 R k w a = onL (L_level_Name_1_0 R k w k a (ByteArray.size a : Int) 0) (K_level_Name_1 R k w) := by kernel_rfl
theorem L_level_Name_1_0_eq (R : Orc) (k : Nat) (w : Bool) (n : Nat) (a : ByteArray) (b c : Int) : L_level_Name_1_0 R k w (n + 1) a b c = ifB (decide (c < b))
 (when ((decide (0 ≤ c)) && (decide (c < (ByteArray.size a : Int)))) (ifB (decide ((((Array.getD (ByteArray.data a) (Int.toNat c) 0).toNat : Nat) : Int) ≥ 97))
 (jump w (J_level_Name_2_0 R k w n a c (((Array.getD (ByteArray.data a) (Int.toNat c) 0).toNat : Nat) : Int) (decide ((((Array.getD (ByteArray.data a) (Int.toNat c) 0).toNat : Nat) : Int) ≤ 122)) b c))
 (jump w (J_level_Name_2_0 R k w n a c (((Array.getD (ByteArray.data a) (Int.toNat c) 0).toNat : Nat) : Int) false b c))))
 (some ((.exit 0), X_level_Name_1_0)) := by kernel_rfl
theorem J_level_Name_2_0_eq (R : Orc) (k : Nat) (w : Bool) (n : Nat) (a : ByteArray) (b c : Int) (d : Bool) (e f : Int) : J_level_Name_2_0 R k w n a b c d e f = ifB (decide (c ≥ 48))
 (jump w (J_level_Name_1_0 R k w n a b d (decide (c ≤ 57)) e f))
 (jump w (J_level_Name_1_0 R k w n a b d false e f)) := by kernel_rfl
theorem X_level_Name_1_0_eq (R : Orc) (k : Nat) (w : Bool) : K_level_Name_1 R k w (.exit 0) (X_level_Name_1_0) = some ([.fz (.bool true)], []) := by kernel_rfl
theorem J_level_Name_1_0_eq (R : Orc) (k : Nat) (w : Bool) (n : Nat) (a : ByteArray) (b : Int) (c d : Bool) (e f : Int) : J_level_Name_1_0 R k w n a b c d e f = ifB (!c)
 (ifB (!d)
 (some (.ret, X_level_Name_1_1 false))
 (ifB (b == 0)
 (some (.ret, X_level_Name_1_1 false))
 (L_level_Name_1_0 R k w n a e (IntKind.wrap .i64 (f + 1)))))
 (L_level_Name_1_0 R k w n a e (IntKind.wrap .i64 (f + 1))) := by kernel_rfl
theorem X_level_Name_1_1_eq (R : Orc) (k : Nat) (w a : Bool) : K_level_Name_1 R k w .ret (X_level_Name_1_1 a) = some ([.fz (.bool a)], []) := by kernel_rfl
/-! keyhole/level.turned -/
def C_level_turned : ACode := codeOf 80 Try.f80
def A_level_turned_b1 : ACode := C_level_turned.at [1, 1, 0, 1, 0, 0, 1, 1, 0, 0, 1, 1, 0, 0]
def A_level_turned_s1 : ACode := C_level_turned.at [1, 1, 0, 1, 0, 0, 1, 1, 1]
def A_level_turned_b2 : ACode := C_level_turned.at [1, 1, 0, 1, 0, 0]
def A_level_turned_s2 : ACode := C_level_turned.at [1, 1, 1]
def A_level_turned : AFunc := ⟨1, [(.cell 2 64 true, .fz)], C_level_turned, none⟩
def K_level_turned_2 (R : Orc) (k : Nat) (w : Bool) : AExit → St → Option Ans := (kBlk 0 (kSeq R k w [] A_level_turned_s2 (kFin R [(.cell 2 64 true, .fz)] [])))
def L_level_turned_2_0 (R : Orc) (k : Nat) (w : Bool) (n : Nat) (a : Int) (b c d : FV) := loopL R k w [] [1, 2, 3, 6] [2, 3] A_level_turned_b2 n ⟨[(1, .ptr 4096 0 0), (2, .ptr 4097 0 0), (3, .ptr 4098 0 0), (6, .fz (.int .i64 a))], [(4095, .dead), (4096, .var 64 true (.fz b)), (4097, .var 64 true (.fz c)), (4098, .var 64 true (.fz d))]⟩
def K_level_turned_1 (R : Orc) (k : Nat) (w : Bool) (n : Nat) : AExit → St → Option (AExit × St) := (kBlk 2 (kBlk 1 (kSeq R k w [] A_level_turned_s1 (kLoop R k w [] [1, 2, 3, 6] [2, 3] A_level_turned_b2 n))))
def L_level_turned_1_0 (R : Orc) (k : Nat) (w : Bool) (n : Nat) (a b c : Int) (d e f : FV) := loopL R k w [] [1, 2, 3, 4, 6, 9] [1, 2, 3, 6] A_level_turned_b1 n ⟨[(1, .ptr 4096 0 0), (2, .ptr 4097 0 0), (3, .ptr 4098 0 0), (4, .fz (.int .i64 a)), (6, .fz (.int .i64 b)), (9, .fz (.int .i64 c))], [(4095, .dead), (4096, .var 64 true (.fz d)), (4097, .var 64 true (.fz e)), (4098, .var 64 true (.fz f))]⟩
def X_level_turned_2_0 (a b : FV) : St := ⟨[(2, .ptr 4096 0 0), (3, .ptr 4097 0 0)], [(4095, .dead), (4096, .var 64 true (.fz a)), (4097, .var 64 true (.fz b))]⟩
def X_level_turned_1_0 (a : Int) (b c d : FV) : St := ⟨[(1, .ptr 4096 0 0), (2, .ptr 4097 0 0), (3, .ptr 4098 0 0), (6, .fz (.int .i64 a))], [(4095, .dead), (4096, .var 64 true (.fz b)), (4097, .var 64 true (.fz c)), (4098, .var 64 true (.fz d))]⟩
theorem E_level_turned (R : Orc) (k : Nat) (w : Bool) (a : FV) : callL R k w A_level_turned [.fz a] = when (fits 64 true a) (onL (L_level_turned_2_0 R k w k 0 a (.ag [.bool false, .bool false, .bool false, .bool false, .bool false, .bool false, .bool false, .bool false, .bool false, .bool false, .bool false, .bool false, .bool false, .bool false, .bool false, .bool false, .bool false, .bool false, .bool false, .bool false, .bool false, .bool false, .bool false, .bool false, .bool false, .bool false, .bool false, .bool false, .bool false, .bool false, .bool false, .bool false, .bool false, .bool false, .bool false, .bool false, .bool false, .bool false, .bool false, .bool false, .bool false, .bool false, .bool false, .bool false, .bool false, .bool false, .bool false, .bool false, .bool false, .bool false, .bool false, .bool false, .bool false, .bool false, .bool false, .bool false, .bool false, .bool false, .bool false, .bool false, .bool false, .bool false, .bool false, .bool false]) (.ag [.bool false, .bool false, .bool false, .bool false, .bool false, .bool false, .bool false, .bool false, .bool false, .bool false, .bool false, .bool false, .bool false, .bool false, .bool false, .bool false, .bool false, .bool false, .bool false, .bool false, .bool false, .bool false, .bool false, .bool false, .bool false, .bool false, .bool false, .bool false, .bool false, .bool false, .bool false, .bool false, .bool false, .bool false, .bool false, .bool false, .bool false, .bool false, .bool false, .bool false, .bool false, .bool false, .bool false, .bool false, .bool false, .bool false, .bool false, .bool false, .bool false, .bool false, .bool false, .bool false, .bool false, .bool false, .bool false, .bool false, .bool false, .bool false, .bool false, .bool false, .bool false, .bool false, .bool false, .bool false])) (K_level_turned_2 R k w)) := by kernel_rfl
theorem L_level_turned_2_0_eq (R : Orc) (k : Nat) (w : Bool) (n : Nat) (a : Int) (b c d : FV) : L_level_turned_2_0 R k w (n + 1) a b c d = ifB (decide (a < 8))
 (onL (L_level_turned_1_0 R k w k a a 0 b c d) (K_level_turned_1 R k w n))
 (some ((.exit 0), X_level_turned_2_0 c d)) := by kernel_rfl
theorem L_level_turned_1_0_eq (R : Orc) (k : Nat) (w : Bool) (n : Nat) (a b c : Int) (d e f : FV) : L_level_turned_1_0 R k w (n + 1) a b c d e f = ifB (decide (c < 8))
 (when (decide (0 ≤ a) && decide (a < 8)) (when (decide (0 ≤ c) && decide (c < 8)) (when (isAg 64 d) (when (Nat.blt ((0 + ((Int.toNat a) * 8)) + ((Int.toNat c) * 1)) 64) (when (isBool (cell d ((0 + ((Int.toNat a) * 8)) + ((Int.toNat c) * 1)))) (when (decide (0 ≤ c) && decide (c < 8)) (when (decide (0 ≤ a) && decide (a < 8)) (when ((isAg 64 f) && true) (when (Nat.blt ((0 + ((Int.toNat c) * 8)) + ((Int.toNat a) * 1)) 64) (L_level_turned_1_0 R k w n a b (IntKind.wrap .i64 (c + 1)) d e (.ag (List.set (toAg f) ((0 + ((Int.toNat c) * 8)) + ((Int.toNat a) * 1)) (.bool (toBool (cell d ((0 + ((Int.toNat a) * 8)) + ((Int.toNat c) * 1)))))))))))))))))
 (some ((.exit 2), X_level_turned_1_0 b d e f)) := by kernel_rfl
theorem X_level_turned_2_0_eq (R : Orc) (k : Nat) (w : Bool) (a b : FV) : K_level_turned_2 R k w (.exit 0) (X_level_turned_2_0 a b) = when (fits 64 true b) (some ([.fz b], [])) := by kernel_rfl
theorem X_level_turned_1_0_eq (R : Orc) (k : Nat) (w : Bool) (n : Nat) (a : Int) (b c d : FV) : K_level_turned_1 R k w n (.exit 2) (X_level_turned_1_0 a b c d) = L_level_turned_2_0 R k w n (IntKind.wrap .i64 (a + 1)) b c d := by kernel_rfl
/-! keyhole/level.over -/
def C_level_over : ACode := codeOf 81 Try.f81
def A_level_over_b1 : ACode := C_level_over.at [1, 0, 1, 0, 0, 1, 1, 0, 0, 1, 1, 0, 1, 0, 1, 0, 0]
def A_level_over_s1 : ACode := C_level_over.at [1, 0, 1, 0, 0, 1, 1, 0, 0, 1, 1, 0, 1, 1]
def A_level_over_j2 : ACode := C_level_over.at [1, 0, 1, 0, 0, 1, 1, 0, 0, 1, 1, 0]
def A_level_over_s3 : ACode := C_level_over.at [1, 0, 1, 0, 0, 1, 1, 1]
def A_level_over_b2 : ACode := C_level_over.at [1, 0, 1, 0, 0]
def A_level_over_s4 : ACode := C_level_over.at [1, 1]
def A_level_over : AFunc := ⟨4, [(.tmp 8, .fz)], C_level_over, none⟩
def K_level_over_2 (R : Orc) (k : Nat) (w : Bool) : AExit → St → Option Ans := (kBlk 0 (kSeq R k w [] A_level_over_s4 (kFin R [(.tmp 8, .fz)] [])))
def L_level_over_2_0 (R : Orc) (k : Nat) (w : Bool) (n : Nat) (a b c d e : Int) (f : FV) := loopL R k w [] [1, 2, 3, 4, 12, 13] [8] A_level_over_b2 n ⟨[(1, .fz (.int .i64 a)), (2, .fz (.int .i64 b)), (3, .fz (.int .i64 c)), (4, .ptr 4096 0 0), (12, .fz (.int .i64 d)), (13, .fz (.int .i64 e))], [(4095, .dead), (4096, .var 64 true (.fz f))]⟩
def J_level_over_2_0 (R : Orc) (k : Nat) (w : Bool) (n : Nat) (a b c d e f : Int) (g : FV) := execL R k w [] A_level_over_j2 (AExit × St) ⟨[(1, .fz (.int .i64 a)), (2, .fz (.int .i64 b)), (3, .fz (.int .i64 c)), (4, .ptr 4096 0 0), (9, .fz (.int .i64 d)), (12, .fz (.int .i64 e)), (13, .fz (.int .i64 f))], [(4095, .dead), (4096, .var 64 true (.fz g))]⟩ (kBlk 1 (kSeq R k w [] A_level_over_s3 (kLoop R k w [] [1, 2, 3, 4, 12, 13] [8] A_level_over_b2 n)))
def X_level_over_2_0 : St := ⟨[], [(4095, .dead)]⟩
def K_level_over_1 (R : Orc) (k : Nat) (w : Bool) (n : Nat) : AExit → St → Option (AExit × St) := (kBlk 2 (kSeq R k w [] A_level_over_s1 (kBlk 1 (kSeq R k w [] A_level_over_s3 (kLoop R k w [] [1, 2, 3, 4, 12, 13] [8] A_level_over_b2 n)))))
def L_level_over_1_0 (R : Orc) (k : Nat) (w : Bool) (n : Nat) (a b c d : Int) (e : Bool) (f g h i : Int) (j : FV) := loopL R k w [] [1, 2, 3, 4, 9, 10, 12, 13, 30, 31] [1, 2, 3, 4, 9, 10, 12, 13] A_level_over_b1 n ⟨[(1, .fz (.int .i64 a)), (2, .fz (.int .i64 b)), (3, .fz (.int .i64 c)), (4, .ptr 4096 0 0), (9, .fz (.int .i64 d)), (10, .fz (.bool e)), (12, .fz (.int .i64 f)), (13, .fz (.int .i64 g)), (30, .fz (.int .i64 h)), (31, .fz (.int .i64 i))], [(4095, .dead), (4096, .var 64 true (.fz j))]⟩
def X_level_over_1_0 (a b c d : Int) (e : Bool) (f g : Int) (h : FV) : St := ⟨[(1, .fz (.int .i64 a)), (2, .fz (.int .i64 b)), (3, .fz (.int .i64 c)), (4, .ptr 4096 0 0), (9, .fz (.int .i64 d)), (10, .fz (.bool e)), (12, .fz (.int .i64 f)), (13, .fz (.int .i64 g))], [(4095, .dead), (4096, .var 64 true (.fz h))]⟩
def X_level_over_2_1 (a : Int) : St := ⟨[(8, .fz (.int .i64 a))], [(4095, .dead)]⟩
theorem E_level_over (R : Orc) (k : Nat) (w : Bool) (a : FV) (b c d : Int) : callL R k w A_level_over [.fz a, .fz (.int .i64 b), .fz (.int .i64 c), .fz (.int .i64 d)] = when (fits 64 true a) (onL (L_level_over_2_0 R k w k b c d b 0 a) (K_level_over_2 R k w)) := by kernel_rfl
theorem L_level_over_2_0_eq (R : Orc) (k : Nat) (w : Bool) (n : Nat) (a b c d e : Int) (f : FV) : L_level_over_2_0 R k w (n + 1) a b c d e f = ifB (decide (e < d))
 (when (decide (0 ≤ b) && decide (b < 8)) (when (decide (0 ≤ e) && decide (e < 8)) (when (isAg 64 f) (when (Nat.blt ((0 + ((Int.toNat b) * 8)) + ((Int.toNat e) * 1)) 64) (when (isBool (cell f ((0 + ((Int.toNat b) * 8)) + ((Int.toNat e) * 1)))) (ifB (!(toBool (cell f ((0 + ((Int.toNat b) * 8)) + ((Int.toNat e) * 1)))))
 (L_level_over_2_0 R k w n a b c d (IntKind.wrap .i64 (e + 1)) f)
 (when (decide (0 ≤ c) && decide (c < 8)) (when (decide (0 ≤ e) && decide (e < 8)) (when (isAg 64 f) (when (Nat.blt ((0 + ((Int.toNat c) * 8)) + ((Int.toNat e) * 1)) 64) (when (isBool (cell f ((0 + ((Int.toNat c) * 8)) + ((Int.toNat e) * 1)))) (ifB (!(toBool (cell f ((0 + ((Int.toNat c) * 8)) + ((Int.toNat e) * 1)))))
 (L_level_over_2_0 R k w n a b c d (IntKind.wrap .i64 (e + 1)) f)
 (jump w (J_level_over_2_0 R k w n a b c e d e f))))))))))))))
 (some ((.exit 0), X_level_over_2_0)) := by kernel_rfl
theorem J_level_over_2_0_eq (R : Orc) (k : Nat) (w : Bool) (n : Nat) (a b c d e f : Int) (g : FV) : J_level_over_2_0 R k w n a b c d e f g = onL (L_level_over_1_0 R k w k a b c d true e f a 0 g) (K_level_over_1 R k w n) := by kernel_rfl
theorem X_level_over_2_0_eq (R : Orc) (k : Nat) (w : Bool) : K_level_over_2 R k w (.exit 0) (X_level_over_2_0) = some ([.fz (.int .i64 (-1))], []) := by kernel_rfl
theorem L_level_over_1_0_eq (R : Orc) (k : Nat) (w : Bool) (n : Nat) (a b c d : Int) (e : Bool) (f g h i : Int) (j : FV) : L_level_over_1_0 R k w (n + 1) a b c d e f g h i j = ifB (decide (i < h))
 (ifB e
 (when (decide (0 ≤ b) && decide (b < 8)) (when (decide (0 ≤ i) && decide (i < 8)) (when (isAg 64 j) (when (Nat.blt ((0 + ((Int.toNat b) * 8)) + ((Int.toNat i) * 1)) 64) (when (isBool (cell j ((0 + ((Int.toNat b) * 8)) + ((Int.toNat i) * 1)))) (ifB (!(toBool (cell j ((0 + ((Int.toNat b) * 8)) + ((Int.toNat i) * 1)))))
 (L_level_over_1_0 R k w n a b c d true f g h (IntKind.wrap .i64 (i + 1)) j)
 (when (decide (0 ≤ c) && decide (c < 8)) (when (decide (0 ≤ i) && decide (i < 8)) (when (isAg 64 j) (when (Nat.blt ((0 + ((Int.toNat c) * 8)) + ((Int.toNat i) * 1)) 64) (when (isBool (cell j ((0 + ((Int.toNat c) * 8)) + ((Int.toNat i) * 1)))) (ifB (!(toBool (cell j ((0 + ((Int.toNat c) * 8)) + ((Int.toNat i) * 1)))))
 (L_level_over_1_0 R k w n a b c d true f g h (IntKind.wrap .i64 (i + 1)) j)
 (when (decide (0 ≤ d) && decide (d < 8)) (when (decide (0 ≤ i) && decide (i < 8)) (when (isAg 64 j) (when (Nat.blt ((0 + ((Int.toNat d) * 8)) + ((Int.toNat i) * 1)) 64) (when (isBool (cell j ((0 + ((Int.toNat d) * 8)) + ((Int.toNat i) * 1)))) (L_level_over_1_0 R k w n a b c d (toBool (cell j ((0 + ((Int.toNat d) * 8)) + ((Int.toNat i) * 1)))) f g h (IntKind.wrap .i64 (i + 1)) j))))))))))))))))))
 (L_level_over_1_0 R k w n a b c d false f g h (IntKind.wrap .i64 (i + 1)) j))
 (some ((.exit 2), X_level_over_1_0 a b c d e f g j)) := by kernel_rfl
theorem X_level_over_1_0_eq (R : Orc) (k : Nat) (w : Bool) (n : Nat) (a b c d : Int) (e : Bool) (f g : Int) (h : FV) : K_level_over_1 R k w n (.exit 2) (X_level_over_1_0 a b c d e f g h) = ifB e
 (some (.ret, X_level_over_2_1 d))
 (L_level_over_2_0 R k w n a b c f (IntKind.wrap .i64 (g + 1)) h) := by kernel_rfl
theorem X_level_over_2_1_eq (R : Orc) (k : Nat) (w : Bool) (a : Int) : K_level_over_2 R k w .ret (X_level_over_2_1 a) = some ([.fz (.int .i64 a)], []) := by kernel_rfl
/-! keyhole/keyholeref05.zero -/
def C_ref05_zero : ACode := codeOf 82 Try.f82
def A_ref05_zero_j1 : ACode := C_ref05_zero.at [1, 1, 0]
def A_ref05_zero : AFunc := ⟨1, [(.tmp 2, .fz)], C_ref05_zero, none⟩
def J_ref05_zero_1_0 (R : Orc) (k : Nat) (w : Bool) (a b c : Int) (d : ByteArray) (e f : List FV) := execL R k w [] A_ref05_zero_j1 Ans ⟨[(1, .ptr 4096 0 0)], [(4095, .dead), (4096, .var 6 true (.fz (.ag [.int .i64 a, .int .i64 b, .int .i64 c, .str d, .sl e, .sl f])))]⟩ (kFin R [(.tmp 2, .fz)] [])
theorem E_ref05_zero (R : Orc) (k : Nat) (w : Bool) (a b c : Int) (d : ByteArray) (e f : List FV) : callL R k w A_ref05_zero [.fz (.ag [.int .i64 a, .int .i64 b, .int .i64 c, .str d, .sl e, .sl f])] = ifB (a != 3)
 (ifB (b != 0)
 (some ([.fz (.bool false)], []))
 (ifB (c != 0)
 (some ([.fz (.bool false)], []))
 (ifB (a != 4)
 (ifB (a != 7)
 (ifB (!(ByteArray.toList d == ByteArray.toList (⟨#[]⟩ : ByteArray)))
 (some ([.fz (.bool false)], []))
 (jump w (J_ref05_zero_1_0 R k w a b c d e f)))
 (jump w (J_ref05_zero_1_0 R k w a b c d e f)))
 (jump w (J_ref05_zero_1_0 R k w a b c d e f)))))
 (ifB (a != 4)
 (ifB (a != 7)
 (ifB (!(ByteArray.toList d == ByteArray.toList (⟨#[]⟩ : ByteArray)))
 (some ([.fz (.bool false)], []))
 (jump w (J_ref05_zero_1_0 R k w a b c d e f)))
 (jump w (J_ref05_zero_1_0 R k w a b c d e f)))
 (jump w (J_ref05_zero_1_0 R k w a b c d e f))) := by kernel_rfl
theorem J_ref05_zero_1_0_eq (R : Orc) (k : Nat) (w : Bool) (a b c : Int) (d : ByteArray) (e f : List FV) : J_ref05_zero_1_0 R k w a b c d e f = ifB (a == 5)
 (ifB (a == 6)
 (some ([.fz (.bool true)], []))
 (some ([.fz (.bool ((List.length f : Int) == 0))], [])))
 (ifB (a == 6)
 (ifB (a == 6)
 (some ([.fz (.bool true)], []))
 (some ([.fz (.bool ((List.length f : Int) == 0))], [])))
 (ifB ((List.length e : Int) == 0)
 (ifB (a == 6)
 (some ([.fz (.bool true)], []))
 (some ([.fz (.bool ((List.length f : Int) == 0))], [])))
 (some ([.fz (.bool false)], [])))) := by kernel_rfl
/-! keyhole/keyholeref03.Signs -/
def C_ref03_Signs : ACode := codeOf 83 Try.f83
def A_ref03_Signs_j1 : ACode := C_ref03_Signs.at [1, 1, 0, 1, 0, 0, 1, 0, 1, 1, 0, 1, 0]
def A_ref03_Signs_j2 : ACode := C_ref03_Signs.at [1, 1, 0, 1, 0, 0, 1, 0, 1, 1, 1, 0, 1, 0, 0, 1, 0, 0, 1, 0, 0, 1, 1, 0]
def A_ref03_Signs_s3 : ACode := C_ref03_Signs.at [1, 1, 0, 1, 0, 0, 1, 0, 1, 1, 1, 0, 1, 0, 0, 1, 0, 0, 1, 1]
def A_ref03_Signs_b1 : ACode := C_ref03_Signs.at [1, 1, 0, 1, 0, 0, 1, 0, 1, 1, 1, 0, 1, 0, 0, 1, 0, 0]
def A_ref03_Signs_j4 : ACode := C_ref03_Signs.at [1, 1, 0, 1, 0, 0, 1, 0, 1, 1, 1, 0, 1, 0, 1, 1, 0]
def A_ref03_Signs_s5 : ACode := C_ref03_Signs.at [1, 1, 0, 1, 0, 0, 1, 0, 1, 1, 1, 0, 1, 0, 1]
def A_ref03_Signs_j6 : ACode := C_ref03_Signs.at [1, 1, 0, 1, 0, 0, 1, 0, 1, 1, 1, 0, 1, 0]
def A_ref03_Signs_j7 : ACode := C_ref03_Signs.at [1, 1, 0, 1, 0, 0, 1, 0, 1, 1, 1, 0]
def A_ref03_Signs_s8 : ACode := C_ref03_Signs.at [1, 1, 0, 1, 0, 0, 1, 0, 1, 1, 1]
def A_ref03_Signs_b2 : ACode := C_ref03_Signs.at [1, 1, 0, 1, 0, 0]
def A_ref03_Signs_s9 : ACode := C_ref03_Signs.at [1, 1, 1]
def A_ref03_Signs : AFunc := ⟨1, [(.tmp 2, .fz), (.tmp 3, .fz)], C_ref03_Signs, none⟩
def K_ref03_Signs_2 (R : Orc) (k : Nat) (w : Bool) : AExit → St → Option Ans := (kBlk 0 (kSeq R k w [] A_ref03_Signs_s9 (kFin R [(.tmp 2, .fz), (.tmp 3, .fz)] [])))
def L_ref03_Signs_2_0 (R : Orc) (k : Nat) (w : Bool) (n : Nat) (a : ByteArray) (b : Int) := loopL R k w [] [0, 4, 5] [2, 3, 4] A_ref03_Signs_b2 n ⟨[(0, .fz (.str a)), (4, .nils), (5, .fz (.int .i64 b))], [(4095, .dead)]⟩
def J_ref03_Signs_1_0 (R : Orc) (k : Nat) (w : Bool) (n : Nat) (a : ByteArray) (b c d e : Int) (f : Bool) := execL R k w [] A_ref03_Signs_j1 (AExit × St) ⟨[(0, .fz (.str a)), (4, .nils), (5, .fz (.int .i64 b)), (6, .fz (.int .i64 c)), (7, .fz (.int .i64 d)), (8, .fz (.int .i64 e)), (25, .fz (.bool f))], [(4095, .dead)]⟩ (kSeq R k w [] A_ref03_Signs_s8 (kBlk 1 (kLoop R k w [] [0, 4, 5] [2, 3, 4] A_ref03_Signs_b2 n)))
def X_ref03_Signs_2_0 : St := ⟨[(4, .nils)], [(4095, .dead)]⟩
def J_ref03_Signs_7_0 (R : Orc) (k : Nat) (w : Bool) (n : Nat) (a : ByteArray) (b c d e : Int) := execL R k w [] A_ref03_Signs_j7 (AExit × St) ⟨[(0, .fz (.str a)), (4, .nils), (5, .fz (.int .i64 b)), (6, .fz (.int .i64 c)), (7, .fz (.int .i64 d)), (8, .fz (.int .i64 e))], [(4095, .dead)]⟩ (kBlk 1 (kLoop R k w [] [0, 4, 5] [2, 3, 4] A_ref03_Signs_b2 n))
def X_ref03_Signs_2_1 (a : Bool) : St := ⟨[(2, .nils), (3, .fz (.bool a)), (4, .nils)], [(4095, .dead)]⟩
def J_ref03_Signs_6_0 (R : Orc) (k : Nat) (w : Bool) (n : Nat) (a : ByteArray) (b c d : Int) := execL R k w [] A_ref03_Signs_j6 (AExit × St) ⟨[(0, .fz (.str a)), (4, .nils), (5, .fz (.int .i64 b)), (7, .fz (.int .i64 c)), (8, .fz (.int .i64 d))], [(4095, .dead)]⟩ (kBlk 1 (kLoop R k w [] [0, 4, 5] [2, 3, 4] A_ref03_Signs_b2 n))
def K_ref03_Signs_1 (R : Orc) (k : Nat) (w : Bool) (n : Nat) : AExit → St → Option (AExit × St) := (kBlk 2 (kSeq R k w [] A_ref03_Signs_s5 (kBlk 1 (kLoop R k w [] [0, 4, 5] [2, 3, 4] A_ref03_Signs_b2 n))))
def L_ref03_Signs_1_0 (R : Orc) (k : Nat) (w : Bool) (n : Nat) (a : ByteArray) (b c d e : Int) := loopL R k w [] [0, 4, 5, 7, 8, 9] [0, 2, 3, 4, 5, 7, 8] A_ref03_Signs_b1 n ⟨[(0, .fz (.str a)), (4, .nils), (5, .fz (.int .i64 b)), (7, .fz (.int .i64 c)), (8, .fz (.int .i64 d)), (9, .fz (.int .i64 e))], [(4095, .dead)]⟩
def X_ref03_Signs_1_0 (a : ByteArray) (b : Bool) (c d e : Int) : St := ⟨[(0, .fz (.str a)), (2, .nils), (3, .fz (.bool b)), (4, .nils), (5, .fz (.int .i64 c)), (7, .fz (.int .i64 d)), (8, .fz (.int .i64 e))], [(4095, .dead)]⟩
def J_ref03_Signs_2_0 (R : Orc) (k : Nat) (w : Bool) (n : Nat) (a : ByteArray) (b c d e f : Int) := execL R k w [] A_ref03_Signs_j2 (AExit × St) ⟨[(0, .fz (.str a)), (4, .nils), (5, .fz (.int .i64 b)), (7, .fz (.int .i64 c)), (8, .fz (.int .i64 d)), (9, .fz (.int .i64 e)), (10, .fz (.int .i64 f))], [(4095, .dead)]⟩ (kBlk 3 (kSeq R k w [] A_ref03_Signs_s3 (kLoop R k w [] [0, 4, 5, 7, 8, 9] [0, 2, 3, 4, 5, 7, 8] A_ref03_Signs_b1 n)))
def X_ref03_Signs_1_1 (a : ByteArray) (b c d : Int) : St := ⟨[(0, .fz (.str a)), (4, .nils), (5, .fz (.int .i64 b)), (7, .fz (.int .i64 c)), (8, .fz (.int .i64 d))], [(4095, .dead)]⟩
def J_ref03_Signs_4_0 (R : Orc) (k : Nat) (w : Bool) (n : Nat) (a : ByteArray) (b c d : Int) := execL R k w [] A_ref03_Signs_j4 (AExit × St) ⟨[(0, .fz (.str a)), (4, .nils), (5, .fz (.int .i64 b)), (7, .fz (.int .i64 c)), (8, .fz (.int .i64 d))], [(4095, .dead)]⟩ (kBlk 1 (kLoop R k w [] [0, 4, 5] [2, 3, 4] A_ref03_Signs_b2 n))
def L_ref03_Signs_2_1 (R : Orc) (k : Nat) (w : Bool) (n : Nat) (a : ByteArray) (b : Int) (c : List FV) := loopL R k w [] [0, 4, 5] [2, 3, 4] A_ref03_Signs_b2 n ⟨[(0, .fz (.str a)), (4, .rw 4096), (5, .fz (.int .i64 b))], [(4095, .dead), (4096, .row 1 false c)]⟩
def J_ref03_Signs_1_1 (R : Orc) (k : Nat) (w : Bool) (n : Nat) (a : ByteArray) (b c d e : Int) (f : Bool) (g : List FV) := execL R k w [] A_ref03_Signs_j1 (AExit × St) ⟨[(0, .fz (.str a)), (4, .rw 4096), (5, .fz (.int .i64 b)), (6, .fz (.int .i64 c)), (7, .fz (.int .i64 d)), (8, .fz (.int .i64 e)), (25, .fz (.bool f))], [(4095, .dead), (4096, .row 1 false g)]⟩ (kSeq R k w [] A_ref03_Signs_s8 (kBlk 1 (kLoop R k w [] [0, 4, 5] [2, 3, 4] A_ref03_Signs_b2 n)))
def X_ref03_Signs_2_2 (a : List FV) : St := ⟨[(4, .rw 4096)], [(4095, .dead), (4096, .row 1 false a)]⟩
def J_ref03_Signs_7_1 (R : Orc) (k : Nat) (w : Bool) (n : Nat) (a : ByteArray) (b c d e : Int) (f : List FV) := execL R k w [] A_ref03_Signs_j7 (AExit × St) ⟨[(0, .fz (.str a)), (4, .rw 4096), (5, .fz (.int .i64 b)), (6, .fz (.int .i64 c)), (7, .fz (.int .i64 d)), (8, .fz (.int .i64 e))], [(4095, .dead), (4096, .row 1 false f)]⟩ (kBlk 1 (kLoop R k w [] [0, 4, 5] [2, 3, 4] A_ref03_Signs_b2 n))
def X_ref03_Signs_2_3 (a : Bool) (b : List FV) : St := ⟨[(2, .nils), (3, .fz (.bool a)), (4, .rw 4096)], [(4095, .dead), (4096, .row 1 false b)]⟩
def J_ref03_Signs_6_1 (R : Orc) (k : Nat) (w : Bool) (n : Nat) (a : ByteArray) (b c d : Int) (e : List FV) := execL R k w [] A_ref03_Signs_j6 (AExit × St) ⟨[(0, .fz (.str a)), (4, .rw 4096), (5, .fz (.int .i64 b)), (7, .fz (.int .i64 c)), (8, .fz (.int .i64 d))], [(4095, .dead), (4096, .row 1 false e)]⟩ (kBlk 1 (kLoop R k w [] [0, 4, 5] [2, 3, 4] A_ref03_Signs_b2 n))
def L_ref03_Signs_1_1 (R : Orc) (k : Nat) (w : Bool) (n : Nat) (a : ByteArray) (b c d e : Int) (f : List FV) := loopL R k w [] [0, 4, 5, 7, 8, 9] [0, 2, 3, 4, 5, 7, 8] A_ref03_Signs_b1 n ⟨[(0, .fz (.str a)), (4, .rw 4096), (5, .fz (.int .i64 b)), (7, .fz (.int .i64 c)), (8, .fz (.int .i64 d)), (9, .fz (.int .i64 e))], [(4095, .dead), (4096, .row 1 false f)]⟩
def X_ref03_Signs_1_2 (a : ByteArray) (b : Bool) (c d e : Int) (f : List FV) : St := ⟨[(0, .fz (.str a)), (2, .nils), (3, .fz (.bool b)), (4, .rw 4096), (5, .fz (.int .i64 c)), (7, .fz (.int .i64 d)), (8, .fz (.int .i64 e))], [(4095, .dead), (4096, .row 1 false f)]⟩
def J_ref03_Signs_2_1 (R : Orc) (k : Nat) (w : Bool) (n : Nat) (a : ByteArray) (b c d e f : Int) (g : List FV) := execL R k w [] A_ref03_Signs_j2 (AExit × St) ⟨[(0, .fz (.str a)), (4, .rw 4096), (5, .fz (.int .i64 b)), (7, .fz (.int .i64 c)), (8, .fz (.int .i64 d)), (9, .fz (.int .i64 e)), (10, .fz (.int .i64 f))], [(4095, .dead), (4096, .row 1 false g)]⟩ (kBlk 3 (kSeq R k w [] A_ref03_Signs_s3 (kLoop R k w [] [0, 4, 5, 7, 8, 9] [0, 2, 3, 4, 5, 7, 8] A_ref03_Signs_b1 n)))
def X_ref03_Signs_1_3 (a : ByteArray) (b c d : Int) (e : List FV) : St := ⟨[(0, .fz (.str a)), (4, .rw 4096), (5, .fz (.int .i64 b)), (7, .fz (.int .i64 c)), (8, .fz (.int .i64 d))], [(4095, .dead), (4096, .row 1 false e)]⟩
def J_ref03_Signs_4_1 (R : Orc) (k : Nat) (w : Bool) (n : Nat) (a : ByteArray) (b c d : Int) (e : List FV) := execL R k w [] A_ref03_Signs_j4 (AExit × St) ⟨[(0, .fz (.str a)), (4, .rw 4096), (5, .fz (.int .i64 b)), (7, .fz (.int .i64 c)), (8, .fz (.int .i64 d))], [(4095, .dead), (4096, .row 1 false e)]⟩ (kBlk 1 (kLoop R k w [] [0, 4, 5] [2, 3, 4] A_ref03_Signs_b2 n))
theorem E_ref03_Signs (R : Orc) (k : Nat) (w : Bool) (a : ByteArray) : callL R k w A_ref03_Signs [.fz (.str a)] = onL (L_ref03_Signs_2_0 R k w k a 0) (K_ref03_Signs_2 R k w) := by kernel_rfl
theorem L_ref03_Signs_2_0_eq (R : Orc) (k : Nat) (w : Bool) (n : Nat) (a : ByteArray) (b : Int) : L_ref03_Signs_2_0 R k w (n + 1) a b = ifB (decide (b < (ByteArray.size a : Int)))
 (when ((decide (0 ≤ b)) && (decide (b < (ByteArray.size a : Int)))) (ifB (decide ((IntKind.wrap .i64 (((Array.getD (ByteArray.data a) (Int.toNat b) 0).toNat : Nat) : Int)) ≥ 240))
 (jump w (J_ref03_Signs_1_0 R k w n a b (IntKind.wrap .i64 (((Array.getD (ByteArray.data a) (Int.toNat b) 0).toNat : Nat) : Int)) 1 (IntKind.wrap .i64 (((Array.getD (ByteArray.data a) (Int.toNat b) 0).toNat : Nat) : Int)) (decide ((IntKind.wrap .i64 (((Array.getD (ByteArray.data a) (Int.toNat b) 0).toNat : Nat) : Int)) < 248))))
 (jump w (J_ref03_Signs_1_0 R k w n a b (IntKind.wrap .i64 (((Array.getD (ByteArray.data a) (Int.toNat b) 0).toNat : Nat) : Int)) 1 (IntKind.wrap .i64 (((Array.getD (ByteArray.data a) (Int.toNat b) 0).toNat : Nat) : Int)) false))))
 (some ((.exit 0), X_ref03_Signs_2_0)) := by kernel_rfl
theorem J_ref03_Signs_1_0_eq (R : Orc) (k : Nat) (w : Bool) (n : Nat) (a : ByteArray) (b c d e : Int) (f : Bool) : J_ref03_Signs_1_0 R k w n a b c d e f = ifB f
 (jump w (J_ref03_Signs_7_0 R k w n a b c 4 (IntKind.wrap .i64 (c - 240))))
 (ifB (decide (c ≥ 224))
 (jump w (J_ref03_Signs_7_0 R k w n a b c 3 (IntKind.wrap .i64 (c - 224))))
 (ifB (decide (c ≥ 192))
 (jump w (J_ref03_Signs_7_0 R k w n a b c 2 (IntKind.wrap .i64 (c - 192))))
 (jump w (J_ref03_Signs_7_0 R k w n a b c d e)))) := by kernel_rfl
theorem X_ref03_Signs_2_0_eq (R : Orc) (k : Nat) (w : Bool) : K_ref03_Signs_2 R k w (.exit 0) (X_ref03_Signs_2_0) = some ([.fz (.sl []), .fz (.bool true)], []) := by kernel_rfl
theorem J_ref03_Signs_7_0_eq (R : Orc) (k : Nat) (w : Bool) (n : Nat) (a : ByteArray) (b c d e : Int) : J_ref03_Signs_7_0 R k w n a b c d e = ifB (decide (c ≥ 248))
 (some (.ret, X_ref03_Signs_2_1 false))
 (ifB (decide (c ≥ 128))
 (ifB (decide (c < 192))
 (some (.ret, X_ref03_Signs_2_1 false))
 (ifB (decide ((IntKind.wrap .i64 (b + d)) > (ByteArray.size a : Int)))
 (some (.ret, X_ref03_Signs_2_1 false))
 (jump w (J_ref03_Signs_6_0 R k w n a b d e))))
 (ifB (decide ((IntKind.wrap .i64 (b + d)) > (ByteArray.size a : Int)))
 (some (.ret, X_ref03_Signs_2_1 false))
 (jump w (J_ref03_Signs_6_0 R k w n a b d e)))) := by kernel_rfl
theorem X_ref03_Signs_2_1_eq (R : Orc) (k : Nat) (w a : Bool) : K_ref03_Signs_2 R k w .ret (X_ref03_Signs_2_1 a) = some ([.fz (.sl []), .fz (.bool a)], []) := by kernel_rfl
theorem J_ref03_Signs_6_0_eq (R : Orc) (k : Nat) (w : Bool) (n : Nat) (a : ByteArray) (b c d : Int) : J_ref03_Signs_6_0 R k w n a b c d = onL (L_ref03_Signs_1_0 R k w k a b c d 1) (K_ref03_Signs_1 R k w n) := by kernel_rfl
theorem L_ref03_Signs_1_0_eq (R : Orc) (k : Nat) (w : Bool) (n : Nat) (a : ByteArray) (b c d e : Int) : L_ref03_Signs_1_0 R k w (n + 1) a b c d e = ifB (decide (e < c))
 (when ((decide (0 ≤ (IntKind.wrap .i64 (b + e)))) && (decide ((IntKind.wrap .i64 (b + e)) < (ByteArray.size a : Int)))) (ifB (decide ((IntKind.wrap .i64 (((Array.getD (ByteArray.data a) (Int.toNat (IntKind.wrap .i64 (b + e))) 0).toNat : Nat) : Int)) < 128))
 (some (.ret, X_ref03_Signs_1_0 a false b c d))
 (ifB (decide ((IntKind.wrap .i64 (((Array.getD (ByteArray.data a) (Int.toNat (IntKind.wrap .i64 (b + e))) 0).toNat : Nat) : Int)) > 191))
 (some (.ret, X_ref03_Signs_1_0 a false b c d))
 (jump w (J_ref03_Signs_2_0 R k w n a b c d e (IntKind.wrap .i64 (((Array.getD (ByteArray.data a) (Int.toNat (IntKind.wrap .i64 (b + e))) 0).toNat : Nat) : Int)))))))
 (some ((.exit 2), X_ref03_Signs_1_1 a b c d)) := by kernel_rfl
theorem X_ref03_Signs_1_0_eq (R : Orc) (k : Nat) (w : Bool) (n : Nat) (a : ByteArray) (b : Bool) (c d e : Int) : K_ref03_Signs_1 R k w n .ret (X_ref03_Signs_1_0 a b c d e) = some (.ret, X_ref03_Signs_2_1 b) := by kernel_rfl
theorem J_ref03_Signs_2_0_eq (R : Orc) (k : Nat) (w : Bool) (n : Nat) (a : ByteArray) (b c d e f : Int) : J_ref03_Signs_2_0 R k w n a b c d e f = L_ref03_Signs_1_0 R k w n a b c (IntKind.wrap .i64 ((IntKind.wrap .i64 ((IntKind.wrap .i64 (64 * d)) + f)) - 128)) (IntKind.wrap .i64 (e + 1)) := by kernel_rfl
theorem X_ref03_Signs_1_1_eq (R : Orc) (k : Nat) (w : Bool) (n : Nat) (a : ByteArray) (b c d : Int) : K_ref03_Signs_1 R k w n (.exit 2) (X_ref03_Signs_1_1 a b c d) = ifB (decide (d > 1114111))
 (some (.ret, X_ref03_Signs_2_1 false))
 (ifB (decide (d ≥ 55296))
 (ifB (decide (d < 57344))
 (some (.ret, X_ref03_Signs_2_1 false))
 (onR (R N_ref03_Put [.fz (.int .i64 d)]) fun r0 => when (List.isEmpty r0.2 && allF [.fz] r0.1) (when ((isSl (toF (List.getD r0.1 0 em))) && (List.all (toSl (toF (List.getD r0.1 0 em))) (fits 1 false))) (when (List.all (toSl (toF (List.getD r0.1 0 em))) (isInt .u8)) (when (decide (0 ≤ (IntKind.wrap .i64 (b + c))) && decide ((IntKind.wrap .i64 (b + c)) ≤ (ByteArray.size a : Int))) (when (decide (0 ≤ b) && decide (b ≤ (IntKind.wrap .i64 (b + c)))) (ifB (!(ByteArray.toList (⟨(List.map (fun e => UInt8.ofNat (toInt e).toNat) (toSl (toF (List.getD r0.1 0 em)))).toArray⟩ : ByteArray) == ByteArray.toList (ByteArray.extract a (Int.toNat b) (Int.toNat (IntKind.wrap .i64 (b + c))))))
 (some (.ret, X_ref03_Signs_2_1 false))
 (jump w (J_ref03_Signs_4_0 R k w n a b c d)))))))))
 (onR (R N_ref03_Put [.fz (.int .i64 d)]) fun r1 => when (List.isEmpty r1.2 && allF [.fz] r1.1) (when ((isSl (toF (List.getD r1.1 0 em))) && (List.all (toSl (toF (List.getD r1.1 0 em))) (fits 1 false))) (when (List.all (toSl (toF (List.getD r1.1 0 em))) (isInt .u8)) (when (decide (0 ≤ (IntKind.wrap .i64 (b + c))) && decide ((IntKind.wrap .i64 (b + c)) ≤ (ByteArray.size a : Int))) (when (decide (0 ≤ b) && decide (b ≤ (IntKind.wrap .i64 (b + c)))) (ifB (!(ByteArray.toList (⟨(List.map (fun e => UInt8.ofNat (toInt e).toNat) (toSl (toF (List.getD r1.1 0 em)))).toArray⟩ : ByteArray) == ByteArray.toList (ByteArray.extract a (Int.toNat b) (Int.toNat (IntKind.wrap .i64 (b + c))))))
 (some (.ret, X_ref03_Signs_2_1 false))
 (jump w (J_ref03_Signs_4_0 R k w n a b c d))))))))) := by kernel_rfl
theorem J_ref03_Signs_4_0_eq (R : Orc) (k : Nat) (w : Bool) (n : Nat) (a : ByteArray) (b c d : Int) : J_ref03_Signs_4_0 R k w n a b c d = when (decide (((0 : Nat) + List.length [FV.int .i64 d]) * 8 ≤ roomy) && decide ((0 : Nat) + List.length [FV.int .i64 d] ≤ roomy)) (L_ref03_Signs_2_1 R k w n a (IntKind.wrap .i64 (b + c)) [.int .i64 d]) := by kernel_rfl
theorem L_ref03_Signs_2_1_eq (R : Orc) (k : Nat) (w : Bool) (n : Nat) (a : ByteArray) (b : Int) (c : List FV) : L_ref03_Signs_2_1 R k w (n + 1) a b c = ifB (decide (b < (ByteArray.size a : Int)))
 (when ((decide (0 ≤ b)) && (decide (b < (ByteArray.size a : Int)))) (ifB (decide ((IntKind.wrap .i64 (((Array.getD (ByteArray.data a) (Int.toNat b) 0).toNat : Nat) : Int)) ≥ 240))
 (jump w (J_ref03_Signs_1_1 R k w n a b (IntKind.wrap .i64 (((Array.getD (ByteArray.data a) (Int.toNat b) 0).toNat : Nat) : Int)) 1 (IntKind.wrap .i64 (((Array.getD (ByteArray.data a) (Int.toNat b) 0).toNat : Nat) : Int)) (decide ((IntKind.wrap .i64 (((Array.getD (ByteArray.data a) (Int.toNat b) 0).toNat : Nat) : Int)) < 248)) c))
 (jump w (J_ref03_Signs_1_1 R k w n a b (IntKind.wrap .i64 (((Array.getD (ByteArray.data a) (Int.toNat b) 0).toNat : Nat) : Int)) 1 (IntKind.wrap .i64 (((Array.getD (ByteArray.data a) (Int.toNat b) 0).toNat : Nat) : Int)) false c))))
 (some ((.exit 0), X_ref03_Signs_2_2 c)) := by kernel_rfl
theorem J_ref03_Signs_1_1_eq (R : Orc) (k : Nat) (w : Bool) (n : Nat) (a : ByteArray) (b c d e : Int) (f : Bool) (g : List FV) : J_ref03_Signs_1_1 R k w n a b c d e f g = ifB f
 (jump w (J_ref03_Signs_7_1 R k w n a b c 4 (IntKind.wrap .i64 (c - 240)) g))
 (ifB (decide (c ≥ 224))
 (jump w (J_ref03_Signs_7_1 R k w n a b c 3 (IntKind.wrap .i64 (c - 224)) g))
 (ifB (decide (c ≥ 192))
 (jump w (J_ref03_Signs_7_1 R k w n a b c 2 (IntKind.wrap .i64 (c - 192)) g))
 (jump w (J_ref03_Signs_7_1 R k w n a b c d e g)))) := by kernel_rfl
theorem X_ref03_Signs_2_2_eq (R : Orc) (k : Nat) (w : Bool) (a : List FV) : K_ref03_Signs_2 R k w (.exit 0) (X_ref03_Signs_2_2 a) = some ([.fz (.sl a), .fz (.bool true)], []) := by kernel_rfl
theorem J_ref03_Signs_7_1_eq (R : Orc) (k : Nat) (w : Bool) (n : Nat) (a : ByteArray) (b c d e : Int) (f : List FV) : J_ref03_Signs_7_1 R k w n a b c d e f = ifB (decide (c ≥ 248))
 (some (.ret, X_ref03_Signs_2_3 false f))
 (ifB (decide (c ≥ 128))
 (ifB (decide (c < 192))
 (some (.ret, X_ref03_Signs_2_3 false f))
 (ifB (decide ((IntKind.wrap .i64 (b + d)) > (ByteArray.size a : Int)))
 (some (.ret, X_ref03_Signs_2_3 false f))
 (jump w (J_ref03_Signs_6_1 R k w n a b d e f))))
 (ifB (decide ((IntKind.wrap .i64 (b + d)) > (ByteArray.size a : Int)))
 (some (.ret, X_ref03_Signs_2_3 false f))
 (jump w (J_ref03_Signs_6_1 R k w n a b d e f)))) := by kernel_rfl
theorem X_ref03_Signs_2_3_eq (R : Orc) (k : Nat) (w a : Bool) (b : List FV) : K_ref03_Signs_2 R k w .ret (X_ref03_Signs_2_3 a b) = some ([.fz (.sl []), .fz (.bool a)], []) := by kernel_rfl
theorem J_ref03_Signs_6_1_eq (R : Orc) (k : Nat) (w : Bool) (n : Nat) (a : ByteArray) (b c d : Int) (e : List FV) : J_ref03_Signs_6_1 R k w n a b c d e = onL (L_ref03_Signs_1_1 R k w k a b c d 1 e) (K_ref03_Signs_1 R k w n) := by kernel_rfl
theorem L_ref03_Signs_1_1_eq (R : Orc) (k : Nat) (w : Bool) (n : Nat) (a : ByteArray) (b c d e : Int) (f : List FV) : L_ref03_Signs_1_1 R k w (n + 1) a b c d e f = ifB (decide (e < c))
 (when ((decide (0 ≤ (IntKind.wrap .i64 (b + e)))) && (decide ((IntKind.wrap .i64 (b + e)) < (ByteArray.size a : Int)))) (ifB (decide ((IntKind.wrap .i64 (((Array.getD (ByteArray.data a) (Int.toNat (IntKind.wrap .i64 (b + e))) 0).toNat : Nat) : Int)) < 128))
 (some (.ret, X_ref03_Signs_1_2 a false b c d f))
 (ifB (decide ((IntKind.wrap .i64 (((Array.getD (ByteArray.data a) (Int.toNat (IntKind.wrap .i64 (b + e))) 0).toNat : Nat) : Int)) > 191))
 (some (.ret, X_ref03_Signs_1_2 a false b c d f))
 (jump w (J_ref03_Signs_2_1 R k w n a b c d e (IntKind.wrap .i64 (((Array.getD (ByteArray.data a) (Int.toNat (IntKind.wrap .i64 (b + e))) 0).toNat : Nat) : Int)) f)))))
 (some ((.exit 2), X_ref03_Signs_1_3 a b c d f)) := by kernel_rfl
theorem X_ref03_Signs_1_2_eq (R : Orc) (k : Nat) (w : Bool) (n : Nat) (a : ByteArray) (b : Bool) (c d e : Int) (f : List FV) : K_ref03_Signs_1 R k w n .ret (X_ref03_Signs_1_2 a b c d e f) = some (.ret, X_ref03_Signs_2_3 b f) := by kernel_rfl
theorem J_ref03_Signs_2_1_eq (R : Orc) (k : Nat) (w : Bool) (n : Nat) (a : ByteArray) (b c d e f : Int) (g : List FV) : J_ref03_Signs_2_1 R k w n a b c d e f g = L_ref03_Signs_1_1 R k w n a b c (IntKind.wrap .i64 ((IntKind.wrap .i64 ((IntKind.wrap .i64 (64 * d)) + f)) - 128)) (IntKind.wrap .i64 (e + 1)) g := by kernel_rfl
theorem X_ref03_Signs_1_3_eq (R : Orc) (k : Nat) (w : Bool) (n : Nat) (a : ByteArray) (b c d : Int) (f : List FV) : K_ref03_Signs_1 R k w n (.exit 2) (X_ref03_Signs_1_3 a b c d f) = ifB (decide (d > 1114111))
 (some (.ret, X_ref03_Signs_2_3 false f))
 (ifB (decide (d ≥ 55296))
 (ifB (decide (d < 57344))
 (some (.ret, X_ref03_Signs_2_3 false f))
 (onR (R N_ref03_Put [.fz (.int .i64 d)]) fun r2 => when (List.isEmpty r2.2 && allF [.fz] r2.1) (when ((isSl (toF (List.getD r2.1 0 em))) && (List.all (toSl (toF (List.getD r2.1 0 em))) (fits 1 false))) (when (List.all (toSl (toF (List.getD r2.1 0 em))) (isInt .u8)) (when (decide (0 ≤ (IntKind.wrap .i64 (b + c))) && decide ((IntKind.wrap .i64 (b + c)) ≤ (ByteArray.size a : Int))) (when (decide (0 ≤ b) && decide (b ≤ (IntKind.wrap .i64 (b + c)))) (ifB (!(ByteArray.toList (⟨(List.map (fun e => UInt8.ofNat (toInt e).toNat) (toSl (toF (List.getD r2.1 0 em)))).toArray⟩ : ByteArray) == ByteArray.toList (ByteArray.extract a (Int.toNat b) (Int.toNat (IntKind.wrap .i64 (b + c))))))
 (some (.ret, X_ref03_Signs_2_3 false f))
 (jump w (J_ref03_Signs_4_1 R k w n a b c d f)))))))))
 (onR (R N_ref03_Put [.fz (.int .i64 d)]) fun r3 => when (List.isEmpty r3.2 && allF [.fz] r3.1) (when ((isSl (toF (List.getD r3.1 0 em))) && (List.all (toSl (toF (List.getD r3.1 0 em))) (fits 1 false))) (when (List.all (toSl (toF (List.getD r3.1 0 em))) (isInt .u8)) (when (decide (0 ≤ (IntKind.wrap .i64 (b + c))) && decide ((IntKind.wrap .i64 (b + c)) ≤ (ByteArray.size a : Int))) (when (decide (0 ≤ b) && decide (b ≤ (IntKind.wrap .i64 (b + c)))) (ifB (!(ByteArray.toList (⟨(List.map (fun e => UInt8.ofNat (toInt e).toNat) (toSl (toF (List.getD r3.1 0 em)))).toArray⟩ : ByteArray) == ByteArray.toList (ByteArray.extract a (Int.toNat b) (Int.toNat (IntKind.wrap .i64 (b + c))))))
 (some (.ret, X_ref03_Signs_2_3 false f))
 (jump w (J_ref03_Signs_4_1 R k w n a b c d f))))))))) := by kernel_rfl
theorem J_ref03_Signs_4_1_eq (R : Orc) (k : Nat) (w : Bool) (n : Nat) (a : ByteArray) (b c d : Int) (e : List FV) : J_ref03_Signs_4_1 R k w n a b c d e = when (decide ((List.length e + List.length [FV.int .i64 d]) * 8 ≤ roomy) && decide (List.length e + List.length [FV.int .i64 d] ≤ roomy)) (L_ref03_Signs_2_1 R k w n a (IntKind.wrap .i64 (b + c)) (e ++ [FV.int .i64 d])) := by kernel_rfl
/-! keyhole/keyholeref04.Is -/
def C_ref04_Is : ACode := codeOf 84 Try.f84
def A_ref04_Is_j1 : ACode := C_ref04_Is.at [1, 1, 0]
def A_ref04_Is : AFunc := ⟨1, [(.tmp 2, .fz)], C_ref04_Is, none⟩
def J_ref04_Is_1_0 (R : Orc) (k : Nat) (w : Bool) (a b : Int) := execL R k w [] A_ref04_Is_j1 Ans ⟨[(1, .ptr 4096 0 0)], [(4095, .dead), (4096, .var 2 true (.fz (.ag [.int .i64 a, .int .i64 b])))]⟩ (kFin R [(.tmp 2, .fz)] [])
theorem E_ref04_Is (R : Orc) (k : Nat) (w : Bool) (a b : Int) : callL R k w A_ref04_Is [.fz (.ag [.int .i64 a, .int .i64 b])] = ifB (decide (b < 0))
 (some ([.fz (.bool false)], []))
 (ifB (decide (b > 9))
 (some ([.fz (.bool false)], []))
 (ifB (decide (a ≥ 1000000000000000))
 (some ([.fz (.bool false)], []))
 (ifB (decide (a ≤ (-1000000000000000)))
 (some ([.fz (.bool false)], []))
 (jump w (J_ref04_Is_1_0 R k w a b))))) := by kernel_rfl
theorem J_ref04_Is_1_0_eq (R : Orc) (k : Nat) (w : Bool) (a b : Int) : J_ref04_Is_1_0 R k w a b = ifB (b == 0)
 (some ([.fz (.bool true)], []))
 (some ([.fz (.bool ((Int.tmod a 10) != 0))], [])) := by kernel_rfl
/-! cmp.isNaN[string] -/
def C_cmp_isNaN_string_ : ACode := codeOf 87 Try.f87
def A_cmp_isNaN_string_ : AFunc := ⟨1, [(.tmp 2, .fz)], C_cmp_isNaN_string_, none⟩
theorem E_cmp_isNaN_string_ (R : Orc) (k : Nat) (w : Bool) (a : ByteArray) : callL R k w A_cmp_isNaN_string_ [.fz (.str a)] = some ([.fz (.bool (!(ByteArray.toList a == ByteArray.toList a)))], []) := by kernel_rfl
/-! keyhole/keyholeref03.Put -/
def C_ref03_Put : ACode := codeOf 88 Try.f88
def A_ref03_Put : AFunc := ⟨1, [(.tmp 2, .fz)], C_ref03_Put, none⟩
theorem E_ref03_Put (R : Orc) (k : Nat) (w : Bool) (a : Int) : callL R k w A_ref03_Put [.fz (.int .i64 a)] = ifB (decide (a < 128))
 (some ([.fz (.sl [(.int .u8 (IntKind.wrap .u8 a))])], []))
 (ifB (decide (a < 2048))
 (some ([.fz (.sl [(.int .u8 (IntKind.wrap .u8 (IntKind.wrap .i64 (192 + (IntKind.wrap .i64 (Int.tdiv a 64)))))), (.int .u8 (IntKind.wrap .u8 (IntKind.wrap .i64 (128 + (Int.tmod a 64)))))])], []))
 (ifB (decide (a < 65536))
 (some ([.fz (.sl [(.int .u8 (IntKind.wrap .u8 (IntKind.wrap .i64 (224 + (IntKind.wrap .i64 (Int.tdiv a 4096)))))), (.int .u8 (IntKind.wrap .u8 (IntKind.wrap .i64 (128 + (Int.tmod (IntKind.wrap .i64 (Int.tdiv a 64)) 64))))), (.int .u8 (IntKind.wrap .u8 (IntKind.wrap .i64 (128 + (Int.tmod a 64)))))])], []))
 (some ([.fz (.sl [(.int .u8 (IntKind.wrap .u8 (IntKind.wrap .i64 (240 + (IntKind.wrap .i64 (Int.tdiv a 262144)))))), (.int .u8 (IntKind.wrap .u8 (IntKind.wrap .i64 (128 + (Int.tmod (IntKind.wrap .i64 (Int.tdiv a 4096)) 64))))), (.int .u8 (IntKind.wrap .u8 (IntKind.wrap .i64 (128 + (Int.tmod (IntKind.wrap .i64 (Int.tdiv a 64)) 64))))), (.int .u8 (IntKind.wrap .u8 (IntKind.wrap .i64 (128 + (Int.tmod a 64)))))])], [])))) := by kernel_rfl
end
end Go.Ab
