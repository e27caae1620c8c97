-- Written by a program of the session, out of the translation. Lean checks it.
import Derived.Test.YtdpfpdejipkffaaA0
namespace Go.Ab
open Go.Proofs FV TV
set_option linter.unusedVariables false
set_option maxRecDepth 100000
noncomputable section
/-! keyhole/level.over -/
def C_level_over : ACode := codeOf 81 Try.f81
def A_level_over_b1 : ACode := C_level_over.at [1, 0, 1, 0, 0, 1, 1, 0, 0, 1, 1, 0, 1, 0, 1, 0, 0]
def A_level_over_s1 : ACode := C_level_over.at [1, 0, 1, 0, 0, 1, 1, 0, 0, 1, 1, 0, 1, 1]
def A_level_over_j2 : ACode := C_level_over.at [1, 0, 1, 0, 0, 1, 1, 0, 0, 1, 1, 0]
def A_level_over_s3 : ACode := C_level_over.at [1, 0, 1, 0, 0, 1, 1, 1]
def A_level_over_b2 : ACode := C_level_over.at [1, 0, 1, 0, 0]
def A_level_over_s4 : ACode := C_level_over.at [1, 1]
def A_level_over : AFunc := ⟨4, [(.tmp 8, .fz)], C_level_over, none⟩
def K_level_over_2 (R : Orc) (k : Nat) (w : Bool) : AExit → St → Option Ans := (kBlk 0 (kSeq R k w [] A_level_over_s4 (kFin R [(.tmp 8, .fz)] [])))
def L_level_over_2_0 (R : Orc) (k : Nat) (w : Bool) (n : Nat) (a b c d e : Int) (f : FV) := loopL R k w [] [1, 2, 3, 4, 12, 13] [8] A_level_over_b2 n ⟨[(1, .fz (.int .i64 a)), (2, .fz (.int .i64 b)), (3, .fz (.int .i64 c)), (4, .ptr 4096 0 0), (12, .fz (.int .i64 d)), (13, .fz (.int .i64 e))], [(4095, .dead), (4096, .var 64 true (.fz f))]⟩
def J_level_over_2_0 (R : Orc) (k : Nat) (w : Bool) (n : Nat) (a b c d e f : Int) (g : FV) := execL R k w [] A_level_over_j2 (AExit × St) ⟨[(1, .fz (.int .i64 a)), (2, .fz (.int .i64 b)), (3, .fz (.int .i64 c)), (4, .ptr 4096 0 0), (9, .fz (.int .i64 d)), (12, .fz (.int .i64 e)), (13, .fz (.int .i64 f))], [(4095, .dead), (4096, .var 64 true (.fz g))]⟩ (kBlk 1 (kSeq R k w [] A_level_over_s3 (kLoop R k w [] [1, 2, 3, 4, 12, 13] [8] A_level_over_b2 n)))
def X_level_over_2_0 : St := ⟨[], [(4095, .dead)]⟩
def K_level_over_1 (R : Orc) (k : Nat) (w : Bool) (n : Nat) : AExit → St → Option (AExit × St) := (kBlk 2 (kSeq R k w [] A_level_over_s1 (kBlk 1 (kSeq R k w [] A_level_over_s3 (kLoop R k w [] [1, 2, 3, 4, 12, 13] [8] A_level_over_b2 n)))))
def L_level_over_1_0 (R : Orc) (k : Nat) (w : Bool) (n : Nat) (a b c d : Int) (e : Bool) (f g h i : Int) (j : FV) := loopL R k w [] [1, 2, 3, 4, 9, 10, 12, 13, 30, 31] [1, 2, 3, 4, 9, 10, 12, 13] A_level_over_b1 n ⟨[(1, .fz (.int .i64 a)), (2, .fz (.int .i64 b)), (3, .fz (.int .i64 c)), (4, .ptr 4096 0 0), (9, .fz (.int .i64 d)), (10, .fz (.bool e)), (12, .fz (.int .i64 f)), (13, .fz (.int .i64 g)), (30, .fz (.int .i64 h)), (31, .fz (.int .i64 i))], [(4095, .dead), (4096, .var 64 true (.fz j))]⟩
def X_level_over_1_0 (a b c d : Int) (e : Bool) (f g : Int) (h : FV) : St := ⟨[(1, .fz (.int .i64 a)), (2, .fz (.int .i64 b)), (3, .fz (.int .i64 c)), (4, .ptr 4096 0 0), (9, .fz (.int .i64 d)), (10, .fz (.bool e)), (12, .fz (.int .i64 f)), (13, .fz (.int .i64 g))], [(4095, .dead), (4096, .var 64 true (.fz h))]⟩
def X_level_over_2_1 (a : Int) : St := ⟨[(8, .fz (.int .i64 a))], [(4095, .dead)]⟩
theorem E_level_over (R : Orc) (k : Nat) (w : Bool) (a : FV) (b c d : Int) : callL R k w A_level_over [.fz a, .fz (.int .i64 b), .fz (.int .i64 c), .fz (.int .i64 d)] = when (fits 64 true a) (onL (L_level_over_2_0 R k w k b c d b 0 a) (K_level_over_2 R k w)) := by kernel_rfl
theorem L_level_over_2_0_eq (R : Orc) (k : Nat) (w : Bool) (n : Nat) (a b c d e : Int) (f : FV) : L_level_over_2_0 R k w (n + 1) a b c d e f = ifB (decide (e < d))
 (when (decide (0 ≤ b) && decide (b < 8)) (when (decide (0 ≤ e) && decide (e < 8)) (when (isAg 64 f) (when (Nat.blt ((0 + ((Int.toNat b) * 8)) + ((Int.toNat e) * 1)) 64) (when (isBool (cell f ((0 + ((Int.toNat b) * 8)) + ((Int.toNat e) * 1)))) (ifB (!(toBool (cell f ((0 + ((Int.toNat b) * 8)) + ((Int.toNat e) * 1)))))
 (L_level_over_2_0 R k w n a b c d (IntKind.wrap .i64 (e + 1)) f)
 (when (decide (0 ≤ c) && decide (c < 8)) (when (decide (0 ≤ e) && decide (e < 8)) (when (isAg 64 f) (when (Nat.blt ((0 + ((Int.toNat c) * 8)) + ((Int.toNat e) * 1)) 64) (when (isBool (cell f ((0 + ((Int.toNat c) * 8)) + ((Int.toNat e) * 1)))) (ifB (!(toBool (cell f ((0 + ((Int.toNat c) * 8)) + ((Int.toNat e) * 1)))))
 (L_level_over_2_0 R k w n a b c d (IntKind.wrap .i64 (e + 1)) f)
 (jump w (J_level_over_2_0 R k w n a b c e d e f))))))))))))))
 (some ((.exit 0), X_level_over_2_0)) := by kernel_rfl
theorem J_level_over_2_0_eq (R : Orc) (k : Nat) (w : Bool) (n : Nat) (a b c d e f : Int) (g : FV) : J_level_over_2_0 R k w n a b c d e f g = onL (L_level_over_1_0 R k w k a b c d true e f a 0 g) (K_level_over_1 R k w n) := by kernel_rfl
theorem X_level_over_2_0_eq (R : Orc) (k : Nat) (w : Bool) : K_level_over_2 R k w (.exit 0) (X_level_over_2_0) = some ([.fz (.int .i64 (-1))], []) := by kernel_rfl
theorem L_level_over_1_0_eq (R : Orc) (k : Nat) (w : Bool) (n : Nat) (a b c d : Int) (e : Bool) (f g h i : Int) (j : FV) : L_level_over_1_0 R k w (n + 1) a b c d e f g h i j = ifB (decide (i < h))
 (ifB e
 (when (decide (0 ≤ b) && decide (b < 8)) (when (decide (0 ≤ i) && decide (i < 8)) (when (isAg 64 j) (when (Nat.blt ((0 + ((Int.toNat b) * 8)) + ((Int.toNat i) * 1)) 64) (when (isBool (cell j ((0 + ((Int.toNat b) * 8)) + ((Int.toNat i) * 1)))) (ifB (!(toBool (cell j ((0 + ((Int.toNat b) * 8)) + ((Int.toNat i) * 1)))))
 (L_level_over_1_0 R k w n a b c d true f g h (IntKind.wrap .i64 (i + 1)) j)
 (when (decide (0 ≤ c) && decide (c < 8)) (when (decide (0 ≤ i) && decide (i < 8)) (when (isAg 64 j) (when (Nat.blt ((0 + ((Int.toNat c) * 8)) + ((Int.toNat i) * 1)) 64) (when (isBool (cell j ((0 + ((Int.toNat c) * 8)) + ((Int.toNat i) * 1)))) (ifB (!(toBool (cell j ((0 + ((Int.toNat c) * 8)) + ((Int.toNat i) * 1)))))
 (L_level_over_1_0 R k w n a b c d true f g h (IntKind.wrap .i64 (i + 1)) j)
 (when (decide (0 ≤ d) && decide (d < 8)) (when (decide (0 ≤ i) && decide (i < 8)) (when (isAg 64 j) (when (Nat.blt ((0 + ((Int.toNat d) * 8)) + ((Int.toNat i) * 1)) 64) (when (isBool (cell j ((0 + ((Int.toNat d) * 8)) + ((Int.toNat i) * 1)))) (L_level_over_1_0 R k w n a b c d (toBool (cell j ((0 + ((Int.toNat d) * 8)) + ((Int.toNat i) * 1)))) f g h (IntKind.wrap .i64 (i + 1)) j))))))))))))))))))
 (L_level_over_1_0 R k w n a b c d false f g h (IntKind.wrap .i64 (i + 1)) j))
 (some ((.exit 2), X_level_over_1_0 a b c d e f g j)) := by kernel_rfl
theorem X_level_over_1_0_eq (R : Orc) (k : Nat) (w : Bool) (n : Nat) (a b c d : Int) (e : Bool) (f g : Int) (h : FV) : K_level_over_1 R k w n (.exit 2) (X_level_over_1_0 a b c d e f g h) = ifB e
 (some (.ret, X_level_over_2_1 d))
 (L_level_over_2_0 R k w n a b c f (IntKind.wrap .i64 (g + 1)) h) := by kernel_rfl
theorem X_level_over_2_1_eq (R : Orc) (k : Nat) (w : Bool) (a : Int) : K_level_over_2 R k w .ret (X_level_over_2_1 a) = some ([.fz (.int .i64 a)], []) := by kernel_rfl
/-! keyhole/keyholeref05.zero -/
def C_ref05_zero : ACode := codeOf 82 Try.f82
def A_ref05_zero_j1 : ACode := C_ref05_zero.at [1, 1, 0]
def A_ref05_zero : AFunc := ⟨1, [(.tmp 2, .fz)], C_ref05_zero, none⟩
def J_ref05_zero_1_0 (R : Orc) (k : Nat) (w : Bool) (a b c : Int) (d : ByteArray) (e f : List FV) := execL R k w [] A_ref05_zero_j1 Ans ⟨[(1, .ptr 4096 0 0)], [(4095, .dead), (4096, .var 6 true (.fz (.ag [.int .i64 a, .int .i64 b, .int .i64 c, .str d, .sl e, .sl f])))]⟩ (kFin R [(.tmp 2, .fz)] [])
theorem E_ref05_zero (R : Orc) (k : Nat) (w : Bool) (a b c : Int) (d : ByteArray) (e f : List FV) : callL R k w A_ref05_zero [.fz (.ag [.int .i64 a, .int .i64 b, .int .i64 c, .str d, .sl e, .sl f])] = ifB (a != 3)
 (ifB (b != 0)
 (some ([.fz (.bool false)], []))
 (ifB (c != 0)
 (some ([.fz (.bool false)], []))
 (ifB (a != 4)
 (ifB (a != 7)
 (ifB (!(ByteArray.toList d == ByteArray.toList (⟨#[]⟩ : ByteArray)))
 (some ([.fz (.bool false)], []))
 (jump w (J_ref05_zero_1_0 R k w a b c d e f)))
 (jump w (J_ref05_zero_1_0 R k w a b c d e f)))
 (jump w (J_ref05_zero_1_0 R k w a b c d e f)))))
 (ifB (a != 4)
 (ifB (a != 7)
 (ifB (!(ByteArray.toList d == ByteArray.toList (⟨#[]⟩ : ByteArray)))
 (some ([.fz (.bool false)], []))
 (jump w (J_ref05_zero_1_0 R k w a b c d e f)))
 (jump w (J_ref05_zero_1_0 R k w a b c d e f)))
 (jump w (J_ref05_zero_1_0 R k w a b c d e f))) := by kernel_rfl
theorem J_ref05_zero_1_0_eq (R : Orc) (k : Nat) (w : Bool) (a b c : Int) (d : ByteArray) (e f : List FV) : J_ref05_zero_1_0 R k w a b c d e f = ifB (a == 5)
 (ifB (a == 6)
 (some ([.fz (.bool true)], []))
 (some ([.fz (.bool ((List.length f : Int) == 0))], [])))
 (ifB (a == 6)
 (ifB (a == 6)
 (some ([.fz (.bool true)], []))
 (some ([.fz (.bool ((List.length f : Int) == 0))], [])))
 (ifB ((List.length e : Int) == 0)
 (ifB (a == 6)
 (some ([.fz (.bool true)], []))
 (some ([.fz (.bool ((List.length f : Int) == 0))], [])))
 (some ([.fz (.bool false)], [])))) := by kernel_rfl
/-! keyhole/keyholeref03.Signs -/
def C_ref03_Signs : ACode := codeOf 83 Try.f83
def A_ref03_Signs_j1 : ACode := C_ref03_Signs.at [1, 1, 0, 1, 0, 0, 1, 0, 1, 1, 0, 1, 0]
def A_ref03_Signs_j2 : ACode := C_ref03_Signs.at [1, 1, 0, 1, 0, 0, 1, 0, 1, 1, 1, 0, 1, 0, 0, 1, 0, 0, 1, 0, 0, 1, 1, 0]
def A_ref03_Signs_s3 : ACode := C_ref03_Signs.at [1, 1, 0, 1, 0, 0, 1, 0, 1, 1, 1, 0, 1, 0, 0, 1, 0, 0, 1, 1]
def A_ref03_Signs_b1 : ACode := C_ref03_Signs.at [1, 1, 0, 1, 0, 0, 1, 0, 1, 1, 1, 0, 1, 0, 0, 1, 0, 0]
def A_ref03_Signs_j4 : ACode := C_ref03_Signs.at [1, 1, 0, 1, 0, 0, 1, 0, 1, 1, 1, 0, 1, 0, 1, 1, 0]
def A_ref03_Signs_s5 : ACode := C_ref03_Signs.at [1, 1, 0, 1, 0, 0, 1, 0, 1, 1, 1, 0, 1, 0, 1]
def A_ref03_Signs_j6 : ACode := C_ref03_Signs.at [1, 1, 0, 1, 0, 0, 1, 0, 1, 1, 1, 0, 1, 0]
def A_ref03_Signs_j7 : ACode := C_ref03_Signs.at [1, 1, 0, 1, 0, 0, 1, 0, 1, 1, 1, 0]
def A_ref03_Signs_s8 : ACode := C_ref03_Signs.at [1, 1, 0, 1, 0, 0, 1, 0, 1, 1, 1]
def A_ref03_Signs_b2 : ACode := C_ref03_Signs.at [1, 1, 0, 1, 0, 0]
def A_ref03_Signs_s9 : ACode := C_ref03_Signs.at [1, 1, 1]
def A_ref03_Signs : AFunc := ⟨1, [(.tmp 2, .fz), (.tmp 3, .fz)], C_ref03_Signs, none⟩
def K_ref03_Signs_2 (R : Orc) (k : Nat) (w : Bool) : AExit → St → Option Ans := (kBlk 0 (kSeq R k w [] A_ref03_Signs_s9 (kFin R [(.tmp 2, .fz), (.tmp 3, .fz)] [])))
def L_ref03_Signs_2_0 (R : Orc) (k : Nat) (w : Bool) (n : Nat) (a : ByteArray) (b : Int) := loopL R k w [] [0, 4, 5] [2, 3, 4] A_ref03_Signs_b2 n ⟨[(0, .fz (.str a)), (4, .nils), (5, .fz (.int .i64 b))], [(4095, .dead)]⟩
def J_ref03_Signs_1_0 (R : Orc) (k : Nat) (w : Bool) (n : Nat) (a : ByteArray) (b c d e : Int) (f : Bool) := execL R k w [] A_ref03_Signs_j1 (AExit × St) ⟨[(0, .fz (.str a)), (4, .nils), (5, .fz (.int .i64 b)), (6, .fz (.int .i64 c)), (7, .fz (.int .i64 d)), (8, .fz (.int .i64 e)), (25, .fz (.bool f))], [(4095, .dead)]⟩ (kSeq R k w [] A_ref03_Signs_s8 (kBlk 1 (kLoop R k w [] [0, 4, 5] [2, 3, 4] A_ref03_Signs_b2 n)))
def X_ref03_Signs_2_0 : St := ⟨[(4, .nils)], [(4095, .dead)]⟩
def J_ref03_Signs_7_0 (R : Orc) (k : Nat) (w : Bool) (n : Nat) (a : ByteArray) (b c d e : Int) := execL R k w [] A_ref03_Signs_j7 (AExit × St) ⟨[(0, .fz (.str a)), (4, .nils), (5, .fz (.int .i64 b)), (6, .fz (.int .i64 c)), (7, .fz (.int .i64 d)), (8, .fz (.int .i64 e))], [(4095, .dead)]⟩ (kBlk 1 (kLoop R k w [] [0, 4, 5] [2, 3, 4] A_ref03_Signs_b2 n))
def X_ref03_Signs_2_1 (a : Bool) : St := ⟨[(2, .nils), (3, .fz (.bool a)), (4, .nils)], [(4095, .dead)]⟩
def J_ref03_Signs_6_0 (R : Orc) (k : Nat) (w : Bool) (n : Nat) (a : ByteArray) (b c d : Int) := execL R k w [] A_ref03_Signs_j6 (AExit × St) ⟨[(0, .fz (.str a)), (4, .nils), (5, .fz (.int .i64 b)), (7, .fz (.int .i64 c)), (8, .fz (.int .i64 d))], [(4095, .dead)]⟩ (kBlk 1 (kLoop R k w [] [0, 4, 5] [2, 3, 4] A_ref03_Signs_b2 n))
def K_ref03_Signs_1 (R : Orc) (k : Nat) (w : Bool) (n : Nat) : AExit → St → Option (AExit × St) := (kBlk 2 (kSeq R k w [] A_ref03_Signs_s5 (kBlk 1 (kLoop R k w [] [0, 4, 5] [2, 3, 4] A_ref03_Signs_b2 n))))
def L_ref03_Signs_1_0 (R : Orc) (k : Nat) (w : Bool) (n : Nat) (a : ByteArray) (b c d e : Int) := loopL R k w [] [0, 4, 5, 7, 8, 9] [0, 2, 3, 4, 5, 7, 8] A_ref03_Signs_b1 n ⟨[(0, .fz (.str a)), (4, .nils), (5, .fz (.int .i64 b)), (7, .fz (.int .i64 c)), (8, .fz (.int .i64 d)), (9, .fz (.int .i64 e))], [(4095, .dead)]⟩
def X_ref03_Signs_1_0 (a : ByteArray) (b : Bool) (c d e : Int) : St := ⟨[(0, .fz (.str a)), (2, .nils), (3, .fz (.bool b)), (4, .nils), (5, .fz (.int .i64 c)), (7, .fz (.int .i64 d)), (8, .fz (.int .i64 e))], [(4095, .dead)]⟩
def J_ref03_Signs_2_0 (R : Orc) (k : Nat) (w : Bool) (n : Nat) (a : ByteArray) (b c d e f : Int) := execL R k w [] A_ref03_Signs_j2 (AExit × St) ⟨[(0, .fz (.str a)), (4, .nils), (5, .fz (.int .i64 b)), (7, .fz (.int .i64 c)), (8, .fz (.int .i64 d)), (9, .fz (.int .i64 e)), (10, .fz (.int .i64 f))], [(4095, .dead)]⟩ (kBlk 3 (kSeq R k w [] A_ref03_Signs_s3 (kLoop R k w [] [0, 4, 5, 7, 8, 9] [0, 2, 3, 4, 5, 7, 8] A_ref03_Signs_b1 n)))
def X_ref03_Signs_1_1 (a : ByteArray) (b c d : Int) : St := ⟨[(0, .fz (.str a)), (4, .nils), (5, .fz (.int .i64 b)), (7, .fz (.int .i64 c)), (8, .fz (.int .i64 d))], [(4095, .dead)]⟩
def J_ref03_Signs_4_0 (R : Orc) (k : Nat) (w : Bool) (n : Nat) (a : ByteArray) (b c d : Int) := execL R k w [] A_ref03_Signs_j4 (AExit × St) ⟨[(0, .fz (.str a)), (4, .nils), (5, .fz (.int .i64 b)), (7, .fz (.int .i64 c)), (8, .fz (.int .i64 d))], [(4095, .dead)]⟩ (kBlk 1 (kLoop R k w [] [0, 4, 5] [2, 3, 4] A_ref03_Signs_b2 n))
def L_ref03_Signs_2_1 (R : Orc) (k : Nat) (w : Bool) (n : Nat) (a : ByteArray) (b : Int) (c : List FV) := loopL R k w [] [0, 4, 5] [2, 3, 4] A_ref03_Signs_b2 n ⟨[(0, .fz (.str a)), (4, .rw 4096), (5, .fz (.int .i64 b))], [(4095, .dead), (4096, .row 1 false c)]⟩
def J_ref03_Signs_1_1 (R : Orc) (k : Nat) (w : Bool) (n : Nat) (a : ByteArray) (b c d e : Int) (f : Bool) (g : List FV) := execL R k w [] A_ref03_Signs_j1 (AExit × St) ⟨[(0, .fz (.str a)), (4, .rw 4096), (5, .fz (.int .i64 b)), (6, .fz (.int .i64 c)), (7, .fz (.int .i64 d)), (8, .fz (.int .i64 e)), (25, .fz (.bool f))], [(4095, .dead), (4096, .row 1 false g)]⟩ (kSeq R k w [] A_ref03_Signs_s8 (kBlk 1 (kLoop R k w [] [0, 4, 5] [2, 3, 4] A_ref03_Signs_b2 n)))
def X_ref03_Signs_2_2 (a : List FV) : St := ⟨[(4, .rw 4096)], [(4095, .dead), (4096, .row 1 false a)]⟩
def J_ref03_Signs_7_1 (R : Orc) (k : Nat) (w : Bool) (n : Nat) (a : ByteArray) (b c d e : Int) (f : List FV) := execL R k w [] A_ref03_Signs_j7 (AExit × St) ⟨[(0, .fz (.str a)), (4, .rw 4096), (5, .fz (.int .i64 b)), (6, .fz (.int .i64 c)), (7, .fz (.int .i64 d)), (8, .fz (.int .i64 e))], [(4095, .dead), (4096, .row 1 false f)]⟩ (kBlk 1 (kLoop R k w [] [0, 4, 5] [2, 3, 4] A_ref03_Signs_b2 n))
def X_ref03_Signs_2_3 (a : Bool) (b : List FV) : St := ⟨[(2, .nils), (3, .fz (.bool a)), (4, .rw 4096)], [(4095, .dead), (4096, .row 1 false b)]⟩
def J_ref03_Signs_6_1 (R : Orc) (k : Nat) (w : Bool) (n : Nat) (a : ByteArray) (b c d : Int) (e : List FV) := execL R k w [] A_ref03_Signs_j6 (AExit × St) ⟨[(0, .fz (.str a)), (4, .rw 4096), (5, .fz (.int .i64 b)), (7, .fz (.int .i64 c)), (8, .fz (.int .i64 d))], [(4095, .dead), (4096, .row 1 false e)]⟩ (kBlk 1 (kLoop R k w [] [0, 4, 5] [2, 3, 4] A_ref03_Signs_b2 n))
def L_ref03_Signs_1_1 (R : Orc) (k : Nat) (w : Bool) (n : Nat) (a : ByteArray) (b c d e : Int) (f : List FV) := loopL R k w [] [0, 4, 5, 7, 8, 9] [0, 2, 3, 4, 5, 7, 8] A_ref03_Signs_b1 n ⟨[(0, .fz (.str a)), (4, .rw 4096), (5, .fz (.int .i64 b)), (7, .fz (.int .i64 c)), (8, .fz (.int .i64 d)), (9, .fz (.int .i64 e))], [(4095, .dead), (4096, .row 1 false f)]⟩
def X_ref03_Signs_1_2 (a : ByteArray) (b : Bool) (c d e : Int) (f : List FV) : St := ⟨[(0, .fz (.str a)), (2, .nils), (3, .fz (.bool b)), (4, .rw 4096), (5, .fz (.int .i64 c)), (7, .fz (.int .i64 d)), (8, .fz (.int .i64 e))], [(4095, .dead), (4096, .row 1 false f)]⟩
def J_ref03_Signs_2_1 (R : Orc) (k : Nat) (w : Bool) (n : Nat) (a : ByteArray) (b c d e f : Int) (g : List FV) := execL R k w [] A_ref03_Signs_j2 (AExit × St) ⟨[(0, .fz (.str a)), (4, .rw 4096), (5, .fz (.int .i64 b)), (7, .fz (.int .i64 c)), (8, .fz (.int .i64 d)), (9, .fz (.int .i64 e)), (10, .fz (.int .i64 f))], [(4095, .dead), (4096, .row 1 false g)]⟩ (kBlk 3 (kSeq R k w [] A_ref03_Signs_s3 (kLoop R k w [] [0, 4, 5, 7, 8, 9] [0, 2, 3, 4, 5, 7, 8] A_ref03_Signs_b1 n)))
def X_ref03_Signs_1_3 (a : ByteArray) (b c d : Int) (e : List FV) : St := ⟨[(0, .fz (.str a)), (4, .rw 4096), (5, .fz (.int .i64 b)), (7, .fz (.int .i64 c)), (8, .fz (.int .i64 d))], [(4095, .dead), (4096, .row 1 false e)]⟩
def J_ref03_Signs_4_1 (R : Orc) (k : Nat) (w : Bool) (n : Nat) (a : ByteArray) (b c d : Int) (e : List FV) := execL R k w [] A_ref03_Signs_j4 (AExit × St) ⟨[(0, .fz (.str a)), (4, .rw 4096), (5, .fz (.int .i64 b)), (7, .fz (.int .i64 c)), (8, .fz (.int .i64 d))], [(4095, .dead), (4096, .row 1 false e)]⟩ (kBlk 1 (kLoop R k w [] [0, 4, 5] [2, 3, 4] A_ref03_Signs_b2 n))
theorem E_ref03_Signs (R : Orc) (k : Nat) (w : Bool) (a : ByteArray) : callL R k w A_ref03_Signs [.fz (.str a)] = onL (L_ref03_Signs_2_0 R k w k a 0) (K_ref03_Signs_2 R k w) := by kernel_rfl
theorem L_ref03_Signs_2_0_eq (R : Orc) (k : Nat) (w : Bool) (n : Nat) (a : ByteArray) (b : Int) : L_ref03_Signs_2_0 R k w (n + 1) a b = ifB (decide (b < (ByteArray.size a : Int)))
 (when ((decide (0 ≤ b)) && (decide (b < (ByteArray.size a : Int)))) (ifB (decide ((IntKind.wrap .i64 (((Array.getD (ByteArray.data a) (Int.toNat b) 0).toNat : Nat) : Int)) ≥ 240))
 (jump w (J_ref03_Signs_1_0 R k w n a b (IntKind.wrap .i64 (((Array.getD (ByteArray.data a) (Int.toNat b) 0).toNat : Nat) : Int)) 1 (IntKind.wrap .i64 (((Array.getD (ByteArray.data a) (Int.toNat b) 0).toNat : Nat) : Int)) (decide ((IntKind.wrap .i64 (((Array.getD (ByteArray.data a) (Int.toNat b) 0).toNat : Nat) : Int)) < 248))))
 (jump w (J_ref03_Signs_1_0 R k w n a b (IntKind.wrap .i64 (((Array.getD (ByteArray.data a) (Int.toNat b) 0).toNat : Nat) : Int)) 1 (IntKind.wrap .i64 (((Array.getD (ByteArray.data a) (Int.toNat b) 0).toNat : Nat) : Int)) false))))
 (some ((.exit 0), X_ref03_Signs_2_0)) := by kernel_rfl
theorem J_ref03_Signs_1_0_eq (R : Orc) (k : Nat) (w : Bool) (n : Nat) (a : ByteArray) (b c d e : Int) (f : Bool) : J_ref03_Signs_1_0 R k w n a b c d e f = ifB f
 (jump w (J_ref03_Signs_7_0 R k w n a b c 4 (IntKind.wrap .i64 (c - 240))))
 (ifB (decide (c ≥ 224))
 (jump w (J_ref03_Signs_7_0 R k w n a b c 3 (IntKind.wrap .i64 (c - 224))))
 (ifB (decide (c ≥ 192))
 (jump w (J_ref03_Signs_7_0 R k w n a b c 2 (IntKind.wrap .i64 (c - 192))))
 (jump w (J_ref03_Signs_7_0 R k w n a b c d e)))) := by kernel_rfl
theorem X_ref03_Signs_2_0_eq (R : Orc) (k : Nat) (w : Bool) : K_ref03_Signs_2 R k w (.exit 0) (X_ref03_Signs_2_0) = some ([.fz (.sl []), .fz (.bool true)], []) := by kernel_rfl
theorem J_ref03_Signs_7_0_eq (R : Orc) (k : Nat) (w : Bool) (n : Nat) (a : ByteArray) (b c d e : Int) : J_ref03_Signs_7_0 R k w n a b c d e = ifB (decide (c ≥ 248))
 (some (.ret, X_ref03_Signs_2_1 false))
 (ifB (decide (c ≥ 128))
 (ifB (decide (c < 192))
 (some (.ret, X_ref03_Signs_2_1 false))
 (ifB (decide ((IntKind.wrap .i64 (b + d)) > (ByteArray.size a : Int)))
 (some (.ret, X_ref03_Signs_2_1 false))
 (jump w (J_ref03_Signs_6_0 R k w n a b d e))))
 (ifB (decide ((IntKind.wrap .i64 (b + d)) > (ByteArray.size a : Int)))
 (some (.ret, X_ref03_Signs_2_1 false))
 (jump w (J_ref03_Signs_6_0 R k w n a b d e)))) := by kernel_rfl
theorem X_ref03_Signs_2_1_eq (R : Orc) (k : Nat) (w a : Bool) : K_ref03_Signs_2 R k w .ret (X_ref03_Signs_2_1 a) = some ([.fz (.sl []), .fz (.bool a)], []) := by kernel_rfl
theorem J_ref03_Signs_6_0_eq (R : Orc) (k : Nat) (w : Bool) (n : Nat) (a : ByteArray) (b c d : Int) : J_ref03_Signs_6_0 R k w n a b c d = onL (L_ref03_Signs_1_0 R k w k a b c d 1) (K_ref03_Signs_1 R k w n) := by kernel_rfl
theorem L_ref03_Signs_1_0_eq (R : Orc) (k : Nat) (w : Bool) (n : Nat) (a : ByteArray) (b c d e : Int) : L_ref03_Signs_1_0 R k w (n + 1) a b c d e = ifB (decide (e < c))
 (when ((decide (0 ≤ (IntKind.wrap .i64 (b + e)))) && (decide ((IntKind.wrap .i64 (b + e)) < (ByteArray.size a : Int)))) (ifB (decide ((IntKind.wrap .i64 (((Array.getD (ByteArray.data a) (Int.toNat (IntKind.wrap .i64 (b + e))) 0).toNat : Nat) : Int)) < 128))
 (some (.ret, X_ref03_Signs_1_0 a false b c d))
 (ifB (decide ((IntKind.wrap .i64 (((Array.getD (ByteArray.data a) (Int.toNat (IntKind.wrap .i64 (b + e))) 0).toNat : Nat) : Int)) > 191))
 (some (.ret, X_ref03_Signs_1_0 a false b c d))
 (jump w (J_ref03_Signs_2_0 R k w n a b c d e (IntKind.wrap .i64 (((Array.getD (ByteArray.data a) (Int.toNat (IntKind.wrap .i64 (b + e))) 0).toNat : Nat) : Int)))))))
 (some ((.exit 2), X_ref03_Signs_1_1 a b c d)) := by kernel_rfl
theorem X_ref03_Signs_1_0_eq (R : Orc) (k : Nat) (w : Bool) (n : Nat) (a : ByteArray) (b : Bool) (c d e : Int) : K_ref03_Signs_1 R k w n .ret (X_ref03_Signs_1_0 a b c d e) = some (.ret, X_ref03_Signs_2_1 b) := by kernel_rfl
theorem J_ref03_Signs_2_0_eq (R : Orc) (k : Nat) (w : Bool) (n : Nat) (a : ByteArray) (b c d e f : Int) : J_ref03_Signs_2_0 R k w n a b c d e f = L_ref03_Signs_1_0 R k w n a b c (IntKind.wrap .i64 ((IntKind.wrap .i64 ((IntKind.wrap .i64 (64 * d)) + f)) - 128)) (IntKind.wrap .i64 (e + 1)) := by kernel_rfl
theorem X_ref03_Signs_1_1_eq (R : Orc) (k : Nat) (w : Bool) (n : Nat) (a : ByteArray) (b c d : Int) : K_ref03_Signs_1 R k w n (.exit 2) (X_ref03_Signs_1_1 a b c d) = ifB (decide (d > 1114111))
 (some (.ret, X_ref03_Signs_2_1 false))
 (ifB (decide (d ≥ 55296))
 (ifB (decide (d < 57344))
 (some (.ret, X_ref03_Signs_2_1 false))
 (onR (R N_ref03_Put [.fz (.int .i64 d)]) fun r0 => when (List.isEmpty r0.2 && allF [.fz] r0.1) (when ((isSl (toF (List.getD r0.1 0 em))) && (List.all (toSl (toF (List.getD r0.1 0 em))) (fits 1 false))) (when (List.all (toSl (toF (List.getD r0.1 0 em))) (isInt .u8)) (when (decide (0 ≤ (IntKind.wrap .i64 (b + c))) && decide ((IntKind.wrap .i64 (b + c)) ≤ (ByteArray.size a : Int))) (when (decide (0 ≤ b) && decide (b ≤ (IntKind.wrap .i64 (b + c)))) (ifB (!(ByteArray.toList (⟨(List.map (fun e => UInt8.ofNat (toInt e).toNat) (toSl (toF (List.getD r0.1 0 em)))).toArray⟩ : ByteArray) == ByteArray.toList (ByteArray.extract a (Int.toNat b) (Int.toNat (IntKind.wrap .i64 (b + c))))))
 (some (.ret, X_ref03_Signs_2_1 false))
 (jump w (J_ref03_Signs_4_0 R k w n a b c d)))))))))
 (onR (R N_ref03_Put [.fz (.int .i64 d)]) fun r1 => when (List.isEmpty r1.2 && allF [.fz] r1.1) (when ((isSl (toF (List.getD r1.1 0 em))) && (List.all (toSl (toF (List.getD r1.1 0 em))) (fits 1 false))) (when (List.all (toSl (toF (List.getD r1.1 0 em))) (isInt .u8)) (when (decide (0 ≤ (IntKind.wrap .i64 (b + c))) && decide ((IntKind.wrap .i64 (b + c)) ≤ (ByteArray.size a : Int))) (when (decide (0 ≤ b) && decide (b ≤ (IntKind.wrap .i64 (b + c)))) (ifB (!(ByteArray.toList (⟨(List.map (fun e => UInt8.ofNat (toInt e).toNat) (toSl (toF (List.getD r1.1 0 em)))).toArray⟩ : ByteArray) == ByteArray.toList (ByteArray.extract a (Int.toNat b) (Int.toNat (IntKind.wrap .i64 (b + c))))))
 (some (.ret, X_ref03_Signs_2_1 false))
 (jump w (J_ref03_Signs_4_0 R k w n a b c d))))))))) := by kernel_rfl
theorem J_ref03_Signs_4_0_eq (R : Orc) (k : Nat) (w : Bool) (n : Nat) (a : ByteArray) (b c d : Int) : J_ref03_Signs_4_0 R k w n a b c d = when (decide (((0 : Nat) + List.length [FV.int .i64 d]) * 8 ≤ roomy) && decide ((0 : Nat) + List.length [FV.int .i64 d] ≤ roomy)) (L_ref03_Signs_2_1 R k w n a (IntKind.wrap .i64 (b + c)) [.int .i64 d]) := by kernel_rfl
theorem L_ref03_Signs_2_1_eq (R : Orc) (k : Nat) (w : Bool) (n : Nat) (a : ByteArray) (b : Int) (c : List FV) : L_ref03_Signs_2_1 R k w (n + 1) a b c = ifB (decide (b < (ByteArray.size a : Int)))
 (when ((decide (0 ≤ b)) && (decide (b < (ByteArray.size a : Int)))) (ifB (decide ((IntKind.wrap .i64 (((Array.getD (ByteArray.data a) (Int.toNat b) 0).toNat : Nat) : Int)) ≥ 240))
 (jump w (J_ref03_Signs_1_1 R k w n a b (IntKind.wrap .i64 (((Array.getD (ByteArray.data a) (Int.toNat b) 0).toNat : Nat) : Int)) 1 (IntKind.wrap .i64 (((Array.getD (ByteArray.data a) (Int.toNat b) 0).toNat : Nat) : Int)) (decide ((IntKind.wrap .i64 (((Array.getD (ByteArray.data a) (Int.toNat b) 0).toNat : Nat) : Int)) < 248)) c))
 (jump w (J_ref03_Signs_1_1 R k w n a b (IntKind.wrap .i64 (((Array.getD (ByteArray.data a) (Int.toNat b) 0).toNat : Nat) : Int)) 1 (IntKind.wrap .i64 (((Array.getD (ByteArray.data a) (Int.toNat b) 0).toNat : Nat) : Int)) false c))))
 (some ((.exit 0), X_ref03_Signs_2_2 c)) := by kernel_rfl
theorem J_ref03_Signs_1_1_eq (R : Orc) (k : Nat) (w : Bool) (n : Nat) (a : ByteArray) (b c d e : Int) (f : Bool) (g : List FV) : J_ref03_Signs_1_1 R k w n a b c d e f g = ifB f
 (jump w (J_ref03_Signs_7_1 R k w n a b c 4 (IntKind.wrap .i64 (c - 240)) g))
 (ifB (decide (c ≥ 224))
 (jump w (J_ref03_Signs_7_1 R k w n a b c 3 (IntKind.wrap .i64 (c - 224)) g))
 (ifB (decide (c ≥ 192))
 (jump w (J_ref03_Signs_7_1 R k w n a b c 2 (IntKind.wrap .i64 (c - 192)) g))
 (jump w (J_ref03_Signs_7_1 R k w n a b c d e g)))) := by kernel_rfl
theorem X_ref03_Signs_2_2_eq (R : Orc) (k : Nat) (w : Bool) (a : List FV) : K_ref03_Signs_2 R k w (.exit 0) (X_ref03_Signs_2_2 a) = some ([.fz (.sl a), .fz (.bool true)], []) := by kernel_rfl
theorem J_ref03_Signs_7_1_eq (R : Orc) (k : Nat) (w : Bool) (n : Nat) (a : ByteArray) (b c d e : Int) (f : List FV) : J_ref03_Signs_7_1 R k w n a b c d e f = ifB (decide (c ≥ 248))
 (some (.ret, X_ref03_Signs_2_3 false f))
 (ifB (decide (c ≥ 128))
 (ifB (decide (c < 192))
 (some (.ret, X_ref03_Signs_2_3 false f))
 (ifB (decide ((IntKind.wrap .i64 (b + d)) > (ByteArray.size a : Int)))
 (some (.ret, X_ref03_Signs_2_3 false f))
 (jump w (J_ref03_Signs_6_1 R k w n a b d e f))))
 (ifB (decide ((IntKind.wrap .i64 (b + d)) > (ByteArray.size a : Int)))
 (some (.ret, X_ref03_Signs_2_3 false f))
 (jump w (J_ref03_Signs_6_1 R k w n a b d e f)))) := by kernel_rfl
theorem X_ref03_Signs_2_3_eq (R : Orc) (k : Nat) (w a : Bool) (b : List FV) : K_ref03_Signs_2 R k w .ret (X_ref03_Signs_2_3 a b) = some ([.fz (.sl []), .fz (.bool a)], []) := by kernel_rfl
theorem J_ref03_Signs_6_1_eq (R : Orc) (k : Nat) (w : Bool) (n : Nat) (a : ByteArray) (b c d : Int) (e : List FV) : J_ref03_Signs_6_1 R k w n a b c d e = onL (L_ref03_Signs_1_1 R k w k a b c d 1 e) (K_ref03_Signs_1 R k w n) := by kernel_rfl
theorem L_ref03_Signs_1_1_eq (R : Orc) (k : Nat) (w : Bool) (n : Nat) (a : ByteArray) (b c d e : Int) (f : List FV) : L_ref03_Signs_1_1 R k w (n + 1) a b c d e f = ifB (decide (e < c))
 (when ((decide (0 ≤ (IntKind.wrap .i64 (b + e)))) && (decide ((IntKind.wrap .i64 (b + e)) < (ByteArray.size a : Int)))) (ifB (decide ((IntKind.wrap .i64 (((Array.getD (ByteArray.data a) (Int.toNat (IntKind.wrap .i64 (b + e))) 0).toNat : Nat) : Int)) < 128))
 (some (.ret, X_ref03_Signs_1_2 a false b c d f))
 (ifB (decide ((IntKind.wrap .i64 (((Array.getD (ByteArray.data a) (Int.toNat (IntKind.wrap .i64 (b + e))) 0).toNat : Nat) : Int)) > 191))
 (some (.ret, X_ref03_Signs_1_2 a false b c d f))
 (jump w (J_ref03_Signs_2_1 R k w n a b c d e (IntKind.wrap .i64 (((Array.getD (ByteArray.data a) (Int.toNat (IntKind.wrap .i64 (b + e))) 0).toNat : Nat) : Int)) f)))))
 (some ((.exit 2), X_ref03_Signs_1_3 a b c d f)) := by kernel_rfl
theorem X_ref03_Signs_1_2_eq (R : Orc) (k : Nat) (w : Bool) (n : Nat) (a : ByteArray) (b : Bool) (c d e : Int) (f : List FV) : K_ref03_Signs_1 R k w n .ret (X_ref03_Signs_1_2 a b c d e f) = some (.ret, X_ref03_Signs_2_3 b f) := by kernel_rfl
theorem J_ref03_Signs_2_1_eq (R : Orc) (k : Nat) (w : Bool) (n : Nat) (a : ByteArray) (b c d e f : Int) (g : List FV) : J_ref03_Signs_2_1 R k w n a b c d e f g = L_ref03_Signs_1_1 R k w n a b c (IntKind.wrap .i64 ((IntKind.wrap .i64 ((IntKind.wrap .i64 (64 * d)) + f)) - 128)) (IntKind.wrap .i64 (e + 1)) g := by kernel_rfl
theorem X_ref03_Signs_1_3_eq (R : Orc) (k : Nat) (w : Bool) (n : Nat) (a : ByteArray) (b c d : Int) (f : List FV) : K_ref03_Signs_1 R k w n (.exit 2) (X_ref03_Signs_1_3 a b c d f) = ifB (decide (d > 1114111))
 (some (.ret, X_ref03_Signs_2_3 false f))
 (ifB (decide (d ≥ 55296))
 (ifB (decide (d < 57344))
 (some (.ret, X_ref03_Signs_2_3 false f))
 (onR (R N_ref03_Put [.fz (.int .i64 d)]) fun r2 => when (List.isEmpty r2.2 && allF [.fz] r2.1) (when ((isSl (toF (List.getD r2.1 0 em))) && (List.all (toSl (toF (List.getD r2.1 0 em))) (fits 1 false))) (when (List.all (toSl (toF (List.getD r2.1 0 em))) (isInt .u8)) (when (decide (0 ≤ (IntKind.wrap .i64 (b + c))) && decide ((IntKind.wrap .i64 (b + c)) ≤ (ByteArray.size a : Int))) (when (decide (0 ≤ b) && decide (b ≤ (IntKind.wrap .i64 (b + c)))) (ifB (!(ByteArray.toList (⟨(List.map (fun e => UInt8.ofNat (toInt e).toNat) (toSl (toF (List.getD r2.1 0 em)))).toArray⟩ : ByteArray) == ByteArray.toList (ByteArray.extract a (Int.toNat b) (Int.toNat (IntKind.wrap .i64 (b + c))))))
 (some (.ret, X_ref03_Signs_2_3 false f))
 (jump w (J_ref03_Signs_4_1 R k w n a b c d f)))))))))
 (onR (R N_ref03_Put [.fz (.int .i64 d)]) fun r3 => when (List.isEmpty r3.2 && allF [.fz] r3.1) (when ((isSl (toF (List.getD r3.1 0 em))) && (List.all (toSl (toF (List.getD r3.1 0 em))) (fits 1 false))) (when (List.all (toSl (toF (List.getD r3.1 0 em))) (isInt .u8)) (when (decide (0 ≤ (IntKind.wrap .i64 (b + c))) && decide ((IntKind.wrap .i64 (b + c)) ≤ (ByteArray.size a : Int))) (when (decide (0 ≤ b) && decide (b ≤ (IntKind.wrap .i64 (b + c)))) (ifB (!(ByteArray.toList (⟨(List.map (fun e => UInt8.ofNat (toInt e).toNat) (toSl (toF (List.getD r3.1 0 em)))).toArray⟩ : ByteArray) == ByteArray.toList (ByteArray.extract a (Int.toNat b) (Int.toNat (IntKind.wrap .i64 (b + c))))))
 (some (.ret, X_ref03_Signs_2_3 false f))
 (jump w (J_ref03_Signs_4_1 R k w n a b c d f))))))))) := by kernel_rfl
theorem J_ref03_Signs_4_1_eq (R : Orc) (k : Nat) (w : Bool) (n : Nat) (a : ByteArray) (b c d : Int) (e : List FV) : J_ref03_Signs_4_1 R k w n a b c d e = when (decide ((List.length e + List.length [FV.int .i64 d]) * 8 ≤ roomy) && decide (List.length e + List.length [FV.int .i64 d] ≤ roomy)) (L_ref03_Signs_2_1 R k w n a (IntKind.wrap .i64 (b + c)) (e ++ [FV.int .i64 d])) := by kernel_rfl
/-! keyhole/keyholeref04.Is -/
def C_ref04_Is : ACode := codeOf 84 Try.f84
def A_ref04_Is_j1 : ACode := C_ref04_Is.at [1, 1, 0]
def A_ref04_Is : AFunc := ⟨1, [(.tmp 2, .fz)], C_ref04_Is, none⟩
def J_ref04_Is_1_0 (R : Orc) (k : Nat) (w : Bool) (a b : Int) := execL R k w [] A_ref04_Is_j1 Ans ⟨[(1, .ptr 4096 0 0)], [(4095, .dead), (4096, .var 2 true (.fz (.ag [.int .i64 a, .int .i64 b])))]⟩ (kFin R [(.tmp 2, .fz)] [])
theorem E_ref04_Is (R : Orc) (k : Nat) (w : Bool) (a b : Int) : callL R k w A_ref04_Is [.fz (.ag [.int .i64 a, .int .i64 b])] = ifB (decide (b < 0))
 (some ([.fz (.bool false)], []))
 (ifB (decide (b > 9))
 (some ([.fz (.bool false)], []))
 (ifB (decide (a ≥ 1000000000000000))
 (some ([.fz (.bool false)], []))
 (ifB (decide (a ≤ (-1000000000000000)))
 (some ([.fz (.bool false)], []))
 (jump w (J_ref04_Is_1_0 R k w a b))))) := by kernel_rfl
theorem J_ref04_Is_1_0_eq (R : Orc) (k : Nat) (w : Bool) (a b : Int) : J_ref04_Is_1_0 R k w a b = ifB (b == 0)
 (some ([.fz (.bool true)], []))
 (some ([.fz (.bool ((Int.tmod a 10) != 0))], [])) := by kernel_rfl
/-! cmp.isNaN[string] -/
def C_cmp_isNaN_string_ : ACode := codeOf 87 Try.f87
def A_cmp_isNaN_string_ : AFunc := ⟨1, [(.tmp 2, .fz)], C_cmp_isNaN_string_, none⟩
theorem E_cmp_isNaN_string_ (R : Orc) (k : Nat) (w : Bool) (a : ByteArray) : callL R k w A_cmp_isNaN_string_ [.fz (.str a)] = some ([.fz (.bool (!(ByteArray.toList a == ByteArray.toList a)))], []) := by kernel_rfl
/-! keyhole/keyholeref03.Put -/
def C_ref03_Put : ACode := codeOf 88 Try.f88
def A_ref03_Put : AFunc := ⟨1, [(.tmp 2, .fz)], C_ref03_Put, none⟩
theorem E_ref03_Put (R : Orc) (k : Nat) (w : Bool) (a : Int) : callL R k w A_ref03_Put [.fz (.int .i64 a)] = ifB (decide (a < 128))
 (some ([.fz (.sl [(.int .u8 (IntKind.wrap .u8 a))])], []))
 (ifB (decide (a < 2048))
 (some ([.fz (.sl [(.int .u8 (IntKind.wrap .u8 (IntKind.wrap .i64 (192 + (IntKind.wrap .i64 (Int.tdiv a 64)))))), (.int .u8 (IntKind.wrap .u8 (IntKind.wrap .i64 (128 + (Int.tmod a 64)))))])], []))
 (ifB (decide (a < 65536))
 (some ([.fz (.sl [(.int .u8 (IntKind.wrap .u8 (IntKind.wrap .i64 (224 + (IntKind.wrap .i64 (Int.tdiv a 4096)))))), (.int .u8 (IntKind.wrap .u8 (IntKind.wrap .i64 (128 + (Int.tmod (IntKind.wrap .i64 (Int.tdiv a 64)) 64))))), (.int .u8 (IntKind.wrap .u8 (IntKind.wrap .i64 (128 + (Int.tmod a 64)))))])], []))
 (some ([.fz (.sl [(.int .u8 (IntKind.wrap .u8 (IntKind.wrap .i64 (240 + (IntKind.wrap .i64 (Int.tdiv a 262144)))))), (.int .u8 (IntKind.wrap .u8 (IntKind.wrap .i64 (128 + (Int.tmod (IntKind.wrap .i64 (Int.tdiv a 4096)) 64))))), (.int .u8 (IntKind.wrap .u8 (IntKind.wrap .i64 (128 + (Int.tmod (IntKind.wrap .i64 (Int.tdiv a 64)) 64))))), (.int .u8 (IntKind.wrap .u8 (IntKind.wrap .i64 (128 + (Int.tmod a 64)))))])], [])))) := by kernel_rfl
end
end Go.Ab
