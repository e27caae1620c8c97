-- Written by a program of the session, out of the translation. Lean checks it.
import Derived.Test.YtdpfpdejipkffaaA0
namespace Go.Ab
open Go.Proofs FV TV
set_option linter.unusedVariables false
set_option maxRecDepth 100000
noncomputable section
/-! keyhole/keyholeref01.Sort -/
def C_ref01_Sort : ACode := codeOf 43 Try.f43
def A_ref01_Sort : AFunc := ⟨1, [(.cell 2 3 true, .fz)], C_ref01_Sort, none⟩
theorem E_ref01_Sort (R : Orc) (k : Nat) (w : Bool) (a : Int) : callL R k w A_ref01_Sort [.fz (.int .i64 a)] = ifB ((Int.tmod (IntKind.wrap .i64 ((Int.tmod a 6) + 6)) 6) == 0)
 (some ([.fz (.ag [(.sl [(.str (⟨#[108, 111, 119]⟩ : ByteArray)), (.str (⟨#[104, 105, 103, 104]⟩ : ByteArray))]), (.sl [(.ag [.int .i64 0, .int .i64 1])]), .sl []])], []))
 (ifB ((Int.tmod (IntKind.wrap .i64 ((Int.tmod a 6) + 6)) 6) == 1)
 (some ([.fz (.ag [(.sl [(.str (⟨#[108, 111, 119]⟩ : ByteArray)), (.str (⟨#[108, 101, 102, 116]⟩ : ByteArray)), (.str (⟨#[114, 105, 103, 104, 116]⟩ : ByteArray)), (.str (⟨#[104, 105, 103, 104]⟩ : ByteArray))]), (.sl [(.ag [.int .i64 0, .int .i64 1]), (.ag [.int .i64 0, .int .i64 2]), (.ag [.int .i64 1, .int .i64 3]), (.ag [.int .i64 2, .int .i64 3])]), .sl []])], []))
 (ifB ((Int.tmod (IntKind.wrap .i64 ((Int.tmod a 6) + 6)) 6) == 2)
 (some ([.fz (.ag [(.sl [(.str (⟨#[97]⟩ : ByteArray)), (.str (⟨#[98]⟩ : ByteArray)), (.str (⟨#[99]⟩ : ByteArray))]), (.sl [(.ag [.int .i64 0, .int .i64 1]), (.ag [.int .i64 1, .int .i64 2])]), .sl []])], []))
 (ifB ((Int.tmod (IntKind.wrap .i64 ((Int.tmod a 6) + 6)) 6) == 3)
 (some ([.fz (.ag [(.sl [(.str (⟨#[111, 110, 101]⟩ : ByteArray))]), .sl [], .sl []])], []))
 (ifB ((Int.tmod (IntKind.wrap .i64 ((Int.tmod a 6) + 6)) 6) == 4)
 (some ([.fz (.ag [(.sl [(.str (⟨#[116, 111, 112]⟩ : ByteArray)), (.str (⟨#[120]⟩ : ByteArray)), (.str (⟨#[121]⟩ : ByteArray)), (.str (⟨#[122]⟩ : ByteArray)), (.str (⟨#[98, 111, 116]⟩ : ByteArray))]), (.sl [(.ag [.int .i64 4, .int .i64 1]), (.ag [.int .i64 4, .int .i64 2]), (.ag [.int .i64 4, .int .i64 3]), (.ag [.int .i64 1, .int .i64 0]), (.ag [.int .i64 2, .int .i64 0]), (.ag [.int .i64 3, .int .i64 0])]), .sl []])], []))
 (some ([.fz (.ag [(.sl [(.str (⟨#[111]⟩ : ByteArray)), (.str (⟨#[112]⟩ : ByteArray)), (.str (⟨#[113]⟩ : ByteArray)), (.str (⟨#[114]⟩ : ByteArray)), (.str (⟨#[112, 113]⟩ : ByteArray)), (.str (⟨#[112, 114]⟩ : ByteArray)), (.str (⟨#[113, 114]⟩ : ByteArray)), (.str (⟨#[97, 108, 108]⟩ : ByteArray))]), (.sl [(.ag [.int .i64 0, .int .i64 1]), (.ag [.int .i64 0, .int .i64 2]), (.ag [.int .i64 0, .int .i64 3]), (.ag [.int .i64 1, .int .i64 4]), (.ag [.int .i64 2, .int .i64 4]), (.ag [.int .i64 1, .int .i64 5]), (.ag [.int .i64 3, .int .i64 5]), (.ag [.int .i64 2, .int .i64 6]), (.ag [.int .i64 3, .int .i64 6]), (.ag [.int .i64 4, .int .i64 7]), (.ag [.int .i64 5, .int .i64 7]), (.ag [.int .i64 6, .int .i64 7])]), .sl []])], [])))))) := by kernel_rfl
/-! keyhole/keyholeref01.Table -/
def C_ref01_Table : ACode := codeOf 44 Try.f44
def A_ref01_Table_b1 : ACode := C_ref01_Table.at [1, 1, 1, 0, 1, 0, 0, 1, 0, 0, 1, 1, 0, 1, 0, 0, 1, 0, 0, 1, 0, 0]
def A_ref01_Table_s1 : ACode := C_ref01_Table.at [1, 1, 1, 0, 1, 0, 0, 1, 0, 0, 1, 1, 0, 1, 0, 0, 1, 1]
def A_ref01_Table_b2 : ACode := C_ref01_Table.at [1, 1, 1, 0, 1, 0, 0, 1, 0, 0, 1, 1, 0, 1, 0, 0]
def A_ref01_Table_s2 : ACode := C_ref01_Table.at [1, 1, 1, 0, 1, 0, 0, 1, 0, 0, 1, 1, 1]
def A_ref01_Table_s3 : ACode := C_ref01_Table.at [1, 1, 1, 0, 1, 0, 0, 1, 1]
def A_ref01_Table_b3 : ACode := C_ref01_Table.at [1, 1, 1, 0, 1, 0, 0]
def A_ref01_Table_s4 : ACode := C_ref01_Table.at [1, 1, 1, 1]
def A_ref01_Table : AFunc := ⟨1, [(.tmp 2, .fz)], C_ref01_Table, none⟩
def K_ref01_Table_3 (R : Orc) (k : Nat) (w : Bool) : AExit → St → Option Ans := (kBlk 0 (kSeq R k w [] A_ref01_Table_s4 (kFin R [(.tmp 2, .fz)] [])))
def L_ref01_Table_3_0 (R : Orc) (k : Nat) (w : Bool) (n : Nat) (a b : Int) (c d e : List FV) := loopL R k w [] [1, 3, 4, 5] [4] A_ref01_Table_b3 n ⟨[(1, .ptr 4096 0 0), (3, .fz (.int .i64 a)), (4, .nils), (5, .fz (.int .i64 b))], [(4095, .dead), (4096, .var 3 true (.fz (.ag [.sl c, .sl d, .sl e])))]⟩
def K_ref01_Table_2 (R : Orc) (k : Nat) (w : Bool) (n : Nat) : AExit → St → Option (AExit × St) := (kBlk 2 (kSeq R k w [] A_ref01_Table_s2 (kBlk 1 (kSeq R k w [] A_ref01_Table_s3 (kLoop R k w [] [1, 3, 4, 5] [4] A_ref01_Table_b3 n)))))
def L_ref01_Table_2_0 (R : Orc) (k : Nat) (w : Bool) (n : Nat) (a b c : Int) (d e f g : List FV) := loopL R k w [] [1, 3, 4, 5, 6, 7] [1, 3, 4, 5, 6] A_ref01_Table_b2 n ⟨[(1, .ptr 4096 0 0), (3, .fz (.int .i64 a)), (4, .nils), (5, .fz (.int .i64 b)), (6, .rw 4097), (7, .fz (.int .i64 c))], [(4095, .dead), (4096, .var 3 true (.fz (.ag [.sl d, .sl e, .sl f]))), (4097, .row 1 false g)]⟩
def X_ref01_Table_3_0 : St := ⟨[(4, .nils)], [(4095, .dead)]⟩
def K_ref01_Table_1 (R : Orc) (k : Nat) (w : Bool) (n : Nat) : AExit → St → Option (AExit × St) := (kBlk 4 (kBlk 3 (kSeq R k w [] A_ref01_Table_s1 (kLoop R k w [] [1, 3, 4, 5, 6, 7] [1, 3, 4, 5, 6] A_ref01_Table_b2 n))))
def L_ref01_Table_1_0 (R : Orc) (k : Nat) (w : Bool) (n : Nat) (a b c d : Int) (e f g h : List FV) := loopL R k w [] [1, 3, 4, 5, 6, 7, 8] [1, 3, 4, 5, 6, 7] A_ref01_Table_b1 n ⟨[(1, .ptr 4096 0 0), (3, .fz (.int .i64 a)), (4, .nils), (5, .fz (.int .i64 b)), (6, .rw 4097), (7, .fz (.int .i64 c)), (8, .fz (.int .i64 d))], [(4095, .dead), (4096, .var 3 true (.fz (.ag [.sl e, .sl f, .sl g]))), (4097, .row 1 false h)]⟩
def X_ref01_Table_2_0 (a b : Int) (c d e f : List FV) : St := ⟨[(1, .ptr 4096 0 0), (3, .fz (.int .i64 a)), (4, .nils), (5, .fz (.int .i64 b)), (6, .rw 4097)], [(4095, .dead), (4096, .var 3 true (.fz (.ag [.sl c, .sl d, .sl e]))), (4097, .row 1 false f)]⟩
def X_ref01_Table_1_0 (a b c : Int) (d e f g : List FV) : St := ⟨[(1, .ptr 4096 0 0), (3, .fz (.int .i64 a)), (4, .nils), (5, .fz (.int .i64 b)), (6, .rw 4097), (7, .fz (.int .i64 c))], [(4095, .dead), (4096, .var 3 true (.fz (.ag [.sl d, .sl e, .sl f]))), (4097, .row 1 false g)]⟩
def L_ref01_Table_3_1 (R : Orc) (k : Nat) (w : Bool) (n : Nat) (a b : Int) (c d e f : List FV) := loopL R k w [] [1, 3, 4, 5] [4] A_ref01_Table_b3 n ⟨[(1, .ptr 4096 0 0), (3, .fz (.int .i64 a)), (4, .rw 4097), (5, .fz (.int .i64 b))], [(4095, .dead), (4096, .var 3 true (.fz (.ag [.sl c, .sl d, .sl e]))), (4097, .row 1 false f)]⟩
def L_ref01_Table_2_1 (R : Orc) (k : Nat) (w : Bool) (n : Nat) (a b c : Int) (d e f g h : List FV) := loopL R k w [] [1, 3, 4, 5, 6, 7] [1, 3, 4, 5, 6] A_ref01_Table_b2 n ⟨[(1, .ptr 4096 0 0), (3, .fz (.int .i64 a)), (4, .rw 4097), (5, .fz (.int .i64 b)), (6, .rw 4098), (7, .fz (.int .i64 c))], [(4095, .dead), (4096, .var 3 true (.fz (.ag [.sl d, .sl e, .sl f]))), (4097, .row 1 false g), (4098, .row 1 false h)]⟩
def X_ref01_Table_3_1 (a : List FV) : St := ⟨[(4, .rw 4096)], [(4095, .dead), (4096, .row 1 false a)]⟩
def L_ref01_Table_1_1 (R : Orc) (k : Nat) (w : Bool) (n : Nat) (a b c d : Int) (e f g h i : List FV) := loopL R k w [] [1, 3, 4, 5, 6, 7, 8] [1, 3, 4, 5, 6, 7] A_ref01_Table_b1 n ⟨[(1, .ptr 4096 0 0), (3, .fz (.int .i64 a)), (4, .rw 4097), (5, .fz (.int .i64 b)), (6, .rw 4098), (7, .fz (.int .i64 c)), (8, .fz (.int .i64 d))], [(4095, .dead), (4096, .var 3 true (.fz (.ag [.sl e, .sl f, .sl g]))), (4097, .row 1 false h), (4098, .row 1 false i)]⟩
def X_ref01_Table_2_1 (a b : Int) (c d e f g : List FV) : St := ⟨[(1, .ptr 4096 0 0), (3, .fz (.int .i64 a)), (4, .rw 4097), (5, .fz (.int .i64 b)), (6, .rw 4098)], [(4095, .dead), (4096, .var 3 true (.fz (.ag [.sl c, .sl d, .sl e]))), (4097, .row 1 false f), (4098, .row 1 false g)]⟩
def X_ref01_Table_1_1 (a b c : Int) (d e f g h : List FV) : St := ⟨[(1, .ptr 4096 0 0), (3, .fz (.int .i64 a)), (4, .rw 4097), (5, .fz (.int .i64 b)), (6, .rw 4098), (7, .fz (.int .i64 c))], [(4095, .dead), (4096, .var 3 true (.fz (.ag [.sl d, .sl e, .sl f]))), (4097, .row 1 false g), (4098, .row 1 false h)]⟩
theorem E_ref01_Table (R : Orc) (k : Nat) (w : Bool) (a b c : List FV) : callL R k w A_ref01_Table [.fz (.ag [.sl a, .sl b, .sl c])] = onL (L_ref01_Table_3_0 R k w k (List.length a : Int) 0 a b c) (K_ref01_Table_3 R k w) := by kernel_rfl
theorem L_ref01_Table_3_0_eq (R : Orc) (k : Nat) (w : Bool) (n : Nat) (a b : Int) (c d e : List FV) : L_ref01_Table_3_0 R k w (n + 1) a b c d e = ifB (decide (b < a))
 (when (decide (0 ≤ a) && (decide (a ≤ a) && (decide (1 * a ≤ roomy) && decide (a ≤ roomy)))) (when ((decide (0 ≤ b)) && (decide (b < (List.length (List.replicate (Int.toNat a) (FV.bool false)) : Int)))) (when (Nat.blt (Int.toNat b) (List.length (List.replicate (Int.toNat a) (FV.bool false)))) (onL (L_ref01_Table_2_0 R k w k a b 0 c d e (List.set (List.replicate (Int.toNat a) (FV.bool false)) (Int.toNat b) (FV.bool true))) (K_ref01_Table_2 R k w n)))))
 (some ((.exit 0), X_ref01_Table_3_0)) := by kernel_rfl
theorem L_ref01_Table_2_0_eq (R : Orc) (k : Nat) (w : Bool) (n : Nat) (a b c : Int) (d e f g : List FV) : L_ref01_Table_2_0 R k w (n + 1) a b c d e f g = ifB (decide (c < a))
 (onL (L_ref01_Table_1_0 R k w k a b c 0 d e f g) (K_ref01_Table_1 R k w n))
 (some ((.exit 2), X_ref01_Table_2_0 a b d e f g)) := by kernel_rfl
theorem X_ref01_Table_3_0_eq (R : Orc) (k : Nat) (w : Bool) : K_ref01_Table_3 R k w (.exit 0) (X_ref01_Table_3_0) = some ([.fz (.sl [])], []) := by kernel_rfl
theorem L_ref01_Table_1_0_eq (R : Orc) (k : Nat) (w : Bool) (n : Nat) (a b c d : Int) (e f g h : List FV) : L_ref01_Table_1_0 R k w (n + 1) a b c d e f g h = ifB (decide (d < (List.length f : Int)))
 (when ((decide (0 ≤ d)) && (decide (d < (List.length f : Int)))) (when (fits 2 true (List.getD f (Int.toNat d) nilp)) (when (isAg 2 (List.getD f (Int.toNat d) nilp)) (when (isInt .i64 (cell (List.getD f (Int.toNat d) nilp) 0)) (when ((decide (0 ≤ (toInt (cell (List.getD f (Int.toNat d) nilp) 0)))) && (decide ((toInt (cell (List.getD f (Int.toNat d) nilp) 0)) < (List.length h : Int)))) (when (Nat.blt (Int.toNat (toInt (cell (List.getD f (Int.toNat d) nilp) 0))) (List.length h)) (when (isBool (List.getD h (Int.toNat (toInt (cell (List.getD f (Int.toNat d) nilp) 0))) nilp)) (ifB (toBool (List.getD h (Int.toNat (toInt (cell (List.getD f (Int.toNat d) nilp) 0))) nilp))
 (when ((decide (0 ≤ d)) && (decide (d < (List.length f : Int)))) (when (fits 2 true (List.getD f (Int.toNat d) nilp)) (when (isAg 2 (List.getD f (Int.toNat d) nilp)) (when (isInt .i64 (cell (List.getD f (Int.toNat d) nilp) 1)) (when ((decide (0 ≤ (toInt (cell (List.getD f (Int.toNat d) nilp) 1)))) && (decide ((toInt (cell (List.getD f (Int.toNat d) nilp) 1)) < (List.length h : Int)))) (when (Nat.blt (Int.toNat (toInt (cell (List.getD f (Int.toNat d) nilp) 1))) (List.length h)) (L_ref01_Table_1_0 R k w n a b c (IntKind.wrap .i64 (d + 1)) e f g (List.set h (Int.toNat (toInt (cell (List.getD f (Int.toNat d) nilp) 1))) (.bool true)))))))))
 (L_ref01_Table_1_0 R k w n a b c (IntKind.wrap .i64 (d + 1)) e f g h)))))))))
 (some ((.exit 4), X_ref01_Table_1_0 a b c e f g h)) := by kernel_rfl
theorem X_ref01_Table_2_0_eq (R : Orc) (k : Nat) (w : Bool) (n : Nat) (a b : Int) (c d e f : List FV) : K_ref01_Table_2 R k w n (.exit 2) (X_ref01_Table_2_0 a b c d e f) = when (decide (((0 : Nat) + List.length [FV.sl f]) * 24 ≤ roomy) && decide ((0 : Nat) + List.length [FV.sl f] ≤ roomy)) (L_ref01_Table_3_1 R k w n a (IntKind.wrap .i64 (b + 1)) c d e [.sl f]) := by kernel_rfl
theorem X_ref01_Table_1_0_eq (R : Orc) (k : Nat) (w : Bool) (n : Nat) (a b c : Int) (d e f g : List FV) : K_ref01_Table_1 R k w n (.exit 4) (X_ref01_Table_1_0 a b c d e f g) = L_ref01_Table_2_0 R k w n a b (IntKind.wrap .i64 (c + 1)) d e f g := by kernel_rfl
theorem L_ref01_Table_3_1_eq (R : Orc) (k : Nat) (w : Bool) (n : Nat) (a b : Int) (c d e f : List FV) : L_ref01_Table_3_1 R k w (n + 1) a b c d e f = ifB (decide (b < a))
 (when (decide (0 ≤ a) && (decide (a ≤ a) && (decide (1 * a ≤ roomy) && decide (a ≤ roomy)))) (when ((decide (0 ≤ b)) && (decide (b < (List.length (List.replicate (Int.toNat a) (FV.bool false)) : Int)))) (when (Nat.blt (Int.toNat b) (List.length (List.replicate (Int.toNat a) (FV.bool false)))) (onL (L_ref01_Table_2_1 R k w k a b 0 c d e f (List.set (List.replicate (Int.toNat a) (FV.bool false)) (Int.toNat b) (FV.bool true))) (K_ref01_Table_2 R k w n)))))
 (some ((.exit 0), X_ref01_Table_3_1 f)) := by kernel_rfl
theorem L_ref01_Table_2_1_eq (R : Orc) (k : Nat) (w : Bool) (n : Nat) (a b c : Int) (d e f g h : List FV) : L_ref01_Table_2_1 R k w (n + 1) a b c d e f g h = ifB (decide (c < a))
 (onL (L_ref01_Table_1_1 R k w k a b c 0 d e f g h) (K_ref01_Table_1 R k w n))
 (some ((.exit 2), X_ref01_Table_2_1 a b d e f g h)) := by kernel_rfl
theorem X_ref01_Table_3_1_eq (R : Orc) (k : Nat) (w : Bool) (a : List FV) : K_ref01_Table_3 R k w (.exit 0) (X_ref01_Table_3_1 a) = some ([.fz (.sl a)], []) := by kernel_rfl
theorem L_ref01_Table_1_1_eq (R : Orc) (k : Nat) (w : Bool) (n : Nat) (a b c d : Int) (e f g h i : List FV) : L_ref01_Table_1_1 R k w (n + 1) a b c d e f g h i = ifB (decide (d < (List.length f : Int)))
 (when ((decide (0 ≤ d)) && (decide (d < (List.length f : Int)))) (when (fits 2 true (List.getD f (Int.toNat d) nilp)) (when (isAg 2 (List.getD f (Int.toNat d) nilp)) (when (isInt .i64 (cell (List.getD f (Int.toNat d) nilp) 0)) (when ((decide (0 ≤ (toInt (cell (List.getD f (Int.toNat d) nilp) 0)))) && (decide ((toInt (cell (List.getD f (Int.toNat d) nilp) 0)) < (List.length i : Int)))) (when (Nat.blt (Int.toNat (toInt (cell (List.getD f (Int.toNat d) nilp) 0))) (List.length i)) (when (isBool (List.getD i (Int.toNat (toInt (cell (List.getD f (Int.toNat d) nilp) 0))) nilp)) (ifB (toBool (List.getD i (Int.toNat (toInt (cell (List.getD f (Int.toNat d) nilp) 0))) nilp))
 (when ((decide (0 ≤ d)) && (decide (d < (List.length f : Int)))) (when (fits 2 true (List.getD f (Int.toNat d) nilp)) (when (isAg 2 (List.getD f (Int.toNat d) nilp)) (when (isInt .i64 (cell (List.getD f (Int.toNat d) nilp) 1)) (when ((decide (0 ≤ (toInt (cell (List.getD f (Int.toNat d) nilp) 1)))) && (decide ((toInt (cell (List.getD f (Int.toNat d) nilp) 1)) < (List.length i : Int)))) (when (Nat.blt (Int.toNat (toInt (cell (List.getD f (Int.toNat d) nilp) 1))) (List.length i)) (L_ref01_Table_1_1 R k w n a b c (IntKind.wrap .i64 (d + 1)) e f g h (List.set i (Int.toNat (toInt (cell (List.getD f (Int.toNat d) nilp) 1))) (.bool true)))))))))
 (L_ref01_Table_1_1 R k w n a b c (IntKind.wrap .i64 (d + 1)) e f g h i)))))))))
 (some ((.exit 4), X_ref01_Table_1_1 a b c e f g h i)) := by kernel_rfl
theorem X_ref01_Table_2_1_eq (R : Orc) (k : Nat) (w : Bool) (n : Nat) (a b : Int) (c d e f g : List FV) : K_ref01_Table_2 R k w n (.exit 2) (X_ref01_Table_2_1 a b c d e f g) = when (decide ((List.length f + List.length [FV.sl g]) * 24 ≤ roomy) && decide (List.length f + List.length [FV.sl g] ≤ roomy)) (L_ref01_Table_3_1 R k w n a (IntKind.wrap .i64 (b + 1)) c d e (f ++ [FV.sl g])) := by kernel_rfl
theorem X_ref01_Table_1_1_eq (R : Orc) (k : Nat) (w : Bool) (n : Nat) (a b c : Int) (d e f g h : List FV) : K_ref01_Table_1 R k w n (.exit 4) (X_ref01_Table_1_1 a b c d e f g h) = L_ref01_Table_2_1 R k w n a b (IntKind.wrap .i64 (c + 1)) d e f g h := by kernel_rfl
/-! keyhole/ltype.is -/
def C_ltype_is : ACode := codeOf 45 Try.f45
def A_ltype_is_b1 : ACode := C_ltype_is.at [1, 1, 0, 0, 1, 0, 0]
def A_ltype_is_s1 : ACode := C_ltype_is.at [1, 1, 0, 1]
def A_ltype_is_j2 : ACode := C_ltype_is.at [1, 1, 0]
def A_ltype_is : AFunc := ⟨3, [(.tmp 6, .fz)], C_ltype_is, none⟩
def J_ltype_is_2_0 (R : Orc) (k : Nat) (w : Bool) (a : FV) (b c : Int) (d e : List FV) (f : Int) := execL R k w [] A_ltype_is_j2 Ans ⟨[(0, .fz (.pt 195 true a 0)), (2, .fz (.int .i64 b)), (4, .ptr 4096 0 0)], [(4095, .dead), (4096, .var 4 true (.fz (.ag [.int .i64 c, .sl d, .sl e, .int .i64 f])))]⟩ (kFin R [(.tmp 6, .fz)] [])
def K_ltype_is_1 (R : Orc) (k : Nat) (w : Bool) : AExit → St → Option Ans := (kBlk 0 (kSeq R k w [] A_ltype_is_s1 (kFin R [(.tmp 6, .fz)] [])))
def L_ltype_is_1_0 (R : Orc) (k : Nat) (w : Bool) (n : Nat) (a : FV) (b : Int) (c : List FV) (d e f : Int) (g h : List FV) (i : Int) := loopL R k w [] [0, 2, 4, 35, 36, 37] [6] A_ltype_is_b1 n ⟨[(0, .fz (.pt 195 true a 0)), (2, .fz (.int .i64 b)), (4, .ptr 4096 0 0), (35, .fz (.sl c)), (36, .fz (.int .i64 d)), (37, .fz (.int .i64 e))], [(4095, .dead), (4096, .var 4 true (.fz (.ag [.int .i64 f, .sl g, .sl h, .int .i64 i])))]⟩
def X_ltype_is_1_0 (a : Bool) : St := ⟨[(6, .fz (.bool a))], [(4095, .dead)]⟩
def X_ltype_is_1_1 : St := ⟨[], [(4095, .dead)]⟩
theorem E_ltype_is (R : Orc) (k : Nat) (w : Bool) (a : FV) (b : Int) (c d : List FV) (e f : Int) : callL R k w A_ltype_is [.fz (.pt 195 true a 0), .fz (.ag [.int .i64 b, .sl c, .sl d, .int .i64 e]), .fz (.int .i64 f)] = ifB (decide (f > 3))
 (some ([.fz (.bool false)], []))
 (onR (R N_level_Lattice_Is [.fz (.pt 195 true a 0), .fz (.int .i64 b)]) fun r0 => when (List.isEmpty r0.2 && allF [.fz] r0.1) (when (isBool (toF (List.getD r0.1 0 em))) (ifB (!(toBool (toF (List.getD r0.1 0 em))))
 (some ([.fz (.bool false)], []))
 (onR (R N_level_Lattice_Is [.fz (.pt 195 true a 0), .fz (.int .i64 e)]) fun r1 => when (List.isEmpty r1.2 && allF [.fz] r1.1) (when (isBool (toF (List.getD r1.1 0 em))) (ifB (!(toBool (toF (List.getD r1.1 0 em))))
 (some ([.fz (.bool false)], []))
 (ifB ((List.length c : Int) != (List.length d : Int))
 (some ([.fz (.bool false)], []))
 (jump w (J_ltype_is_2_0 R k w a f b c d e))))))))) := by kernel_rfl
theorem J_ltype_is_2_0_eq (R : Orc) (k : Nat) (w : Bool) (a : FV) (b c : Int) (d e : List FV) (f : Int) : J_ltype_is_2_0 R k w a b c d e f = onL (L_ltype_is_1_0 R k w k a b e (List.length e : Int) 0 c d e f) (K_ltype_is_1 R k w) := by kernel_rfl
theorem L_ltype_is_1_0_eq (R : Orc) (k : Nat) (w : Bool) (n : Nat) (a : FV) (b : Int) (c : List FV) (d e f : Int) (g h : List FV) (i : Int) : L_ltype_is_1_0 R k w (n + 1) a b c d e f g h i = ifB (decide (e < d))
 (when ((decide (0 ≤ e)) && (decide (e < (List.length c : Int)))) (when (fits 4 true (List.getD c (Int.toNat e) nilp)) (when (fits 4 true (List.getD c (Int.toNat e) nilp)) (ifB (decide (e > 0))
 (when ((decide (0 ≤ e)) && (decide (e < (List.length g : Int)))) (when (fits 1 false (List.getD g (Int.toNat e) nilp)) (when (isStr (List.getD g (Int.toNat e) nilp)) (when ((decide (0 ≤ (IntKind.wrap .i64 (e - 1)))) && (decide ((IntKind.wrap .i64 (e - 1)) < (List.length g : Int)))) (when (fits 1 false (List.getD g (Int.toNat (IntKind.wrap .i64 (e - 1))) nilp)) (when (isStr (List.getD g (Int.toNat (IntKind.wrap .i64 (e - 1))) nilp)) (ifB (Op.bytesLess (ByteArray.toList (toStr (List.getD g (Int.toNat e) nilp))) (ByteArray.toList (toStr (List.getD g (Int.toNat (IntKind.wrap .i64 (e - 1))) nilp))) || ByteArray.toList (toStr (List.getD g (Int.toNat e) nilp)) == ByteArray.toList (toStr (List.getD g (Int.toNat (IntKind.wrap .i64 (e - 1))) nilp)))
 (some (.ret, X_ltype_is_1_0 false))
 (onR (R N_ltype_is [.fz (.pt 195 true a 0), .fz (List.getD c (Int.toNat e) nilp), .fz (.int .i64 (IntKind.wrap .i64 (b + 1)))]) fun r2 => when (List.isEmpty r2.2 && allF [.fz] r2.1) (when (isBool (toF (List.getD r2.1 0 em))) (ifB (!(toBool (toF (List.getD r2.1 0 em))))
 (some (.ret, X_ltype_is_1_0 false))
 (L_ltype_is_1_0 R k w n a b c d (IntKind.wrap .i64 (e + 1)) f g h i)))))))))))
 (onR (R N_ltype_is [.fz (.pt 195 true a 0), .fz (List.getD c (Int.toNat e) nilp), .fz (.int .i64 (IntKind.wrap .i64 (b + 1)))]) fun r3 => when (List.isEmpty r3.2 && allF [.fz] r3.1) (when (isBool (toF (List.getD r3.1 0 em))) (ifB (!(toBool (toF (List.getD r3.1 0 em))))
 (some (.ret, X_ltype_is_1_0 false))
 (L_ltype_is_1_0 R k w n a b c d (IntKind.wrap .i64 (e + 1)) f g h i))))))))
 (some ((.exit 0), X_ltype_is_1_1)) := by kernel_rfl
theorem X_ltype_is_1_0_eq (R : Orc) (k : Nat) (w a : Bool) : K_ltype_is_1 R k w .ret (X_ltype_is_1_0 a) = some ([.fz (.bool a)], []) := by kernel_rfl
theorem X_ltype_is_1_1_eq (R : Orc) (k : Nat) (w : Bool) : K_ltype_is_1 R k w (.exit 0) (X_ltype_is_1_1) = some ([.fz (.bool true)], []) := by kernel_rfl
/-! keyhole/keyholeref09.Size -/
def C_ref09_Size : ACode := codeOf 46 Try.f46
def A_ref09_Size_b1 : ACode := C_ref09_Size.at [1, 1, 1, 0, 1, 0, 0]
def A_ref09_Size_s1 : ACode := C_ref09_Size.at [1, 1, 1, 1]
def A_ref09_Size : AFunc := ⟨3, [(.tmp 6, .fz)], C_ref09_Size, none⟩
def K_ref09_Size_1 (R : Orc) (k : Nat) (w : Bool) : AExit → St → Option Ans := (kBlk 0 (kSeq R k w [] A_ref09_Size_s1 (kFin R [(.tmp 6, .fz)] [])))
def L_ref09_Size_1_0 (R : Orc) (k : Nat) (w : Bool) (n : Nat) (a b c d e f g h : Int) (i : ByteArray) (j l : List FV) := loopL R k w [] [1, 2, 3, 7] [1] A_ref09_Size_b1 n ⟨[(1, .fz (.int .i64 a)), (2, .fz (.int .i64 b)), (3, .ptr 4096 0 0), (7, .fz (.int .i64 c))], [(4095, .dead), (4096, .var 8 true (.fz (.ag [.int .i64 d, .int .i64 e, .int .i64 f, .int .i64 g, .int .i64 h, .str i, .sl j, .sl l])))]⟩
def X_ref09_Size_1_0 (a : Int) : St := ⟨[(1, .fz (.int .i64 a))], [(4095, .dead)]⟩
theorem E_ref09_Size (R : Orc) (k : Nat) (w : Bool) (a b c d e : Int) (f : ByteArray) (g h : List FV) (i j : Int) : callL R k w A_ref09_Size [.fz (.ag [.int .i64 a, .int .i64 b, .int .i64 c, .int .i64 d, .int .i64 e, .str f, .sl g, .sl h]), .fz (.int .i64 i), .fz (.int .i64 j)] = ifB (decide (i ≥ j))
 (some ([.fz (.int .i64 i)], []))
 (onL (L_ref09_Size_1_0 R k w k (IntKind.wrap .i64 (i + 1)) j 0 a b c d e f g h) (K_ref09_Size_1 R k w)) := by kernel_rfl
theorem L_ref09_Size_1_0_eq (R : Orc) (k : Nat) (w : Bool) (n : Nat) (a b c d e f g h : Int) (i : ByteArray) (j l : List FV) : L_ref09_Size_1_0 R k w (n + 1) a b c d e f g h i j l = ifB (decide (c < (List.length j : Int)))
 (when ((decide (0 ≤ c)) && (decide (c < (List.length j : Int)))) (when (fits 8 true (List.getD j (Int.toNat c) nilp)) (onR (R N_ref09_Size [.fz (List.getD j (Int.toNat c) nilp), .fz (.int .i64 a), .fz (.int .i64 b)]) fun r0 => when (List.isEmpty r0.2 && allF [.fz] r0.1) (when (isInt .i64 (toF (List.getD r0.1 0 em))) (L_ref09_Size_1_0 R k w n (toInt (toF (List.getD r0.1 0 em))) b (IntKind.wrap .i64 (c + 1)) d e f g h i j l)))))
 (some ((.exit 0), X_ref09_Size_1_0 a)) := by kernel_rfl
theorem X_ref09_Size_1_0_eq (R : Orc) (k : Nat) (w : Bool) (a : Int) : K_ref09_Size_1 R k w (.exit 0) (X_ref09_Size_1_0 a) = some ([.fz (.int .i64 a)], []) := by kernel_rfl
/-! keyhole/keyholeref09.Flat -/
def C_ref09_Flat : ACode := codeOf 47 Try.f47
def A_ref09_Flat_b1 : ACode := C_ref09_Flat.at [1, 1, 0, 1, 0, 0]
def A_ref09_Flat_s1 : ACode := C_ref09_Flat.at [1, 1, 1]
def A_ref09_Flat : AFunc := ⟨2, [(.tmp 4, .fz)], C_ref09_Flat, none⟩
def K_ref09_Flat_1 (R : Orc) (k : Nat) (w : Bool) : AExit → St → Option Ans := (kBlk 0 (kSeq R k w [] A_ref09_Flat_s1 (kFin R [(.tmp 4, .fz)] [])))
def L_ref09_Flat_1_0 (R : Orc) (k : Nat) (w : Bool) (n : Nat) (a b c d e f g : Int) (h : ByteArray) (i j : List FV) := loopL R k w [] [1, 2, 5] [4] A_ref09_Flat_b1 n ⟨[(1, .fz (.int .i64 a)), (2, .ptr 4096 0 0), (5, .fz (.int .i64 b))], [(4095, .dead), (4096, .var 8 true (.fz (.ag [.int .i64 c, .int .i64 d, .int .i64 e, .int .i64 f, .int .i64 g, .str h, .sl i, .sl j])))]⟩
def X_ref09_Flat_1_0 (a : Bool) : St := ⟨[(4, .fz (.bool a))], [(4095, .dead)]⟩
def X_ref09_Flat_1_1 : St := ⟨[], [(4095, .dead)]⟩
theorem E_ref09_Flat (R : Orc) (k : Nat) (w : Bool) (a b c d e : Int) (f : ByteArray) (g h : List FV) (i : Int) : callL R k w A_ref09_Flat [.fz (.ag [.int .i64 a, .int .i64 b, .int .i64 c, .int .i64 d, .int .i64 e, .str f, .sl g, .sl h]), .fz (.int .i64 i)] = ifB (decide (i < 0))
 (some ([.fz (.bool false)], []))
 (onL (L_ref09_Flat_1_0 R k w k i 0 a b c d e f g h) (K_ref09_Flat_1 R k w)) := by kernel_rfl
theorem L_ref09_Flat_1_0_eq (R : Orc) (k : Nat) (w : Bool) (n : Nat) (a b c d e f g : Int) (h : ByteArray) (i j : List FV) : L_ref09_Flat_1_0 R k w (n + 1) a b c d e f g h i j = ifB (decide (b < (List.length i : Int)))
 (when ((decide (0 ≤ b)) && (decide (b < (List.length i : Int)))) (when (fits 8 true (List.getD i (Int.toNat b) nilp)) (onR (R N_ref09_Flat [.fz (List.getD i (Int.toNat b) nilp), .fz (.int .i64 (IntKind.wrap .i64 (a - 1)))]) fun r0 => when (List.isEmpty r0.2 && allF [.fz] r0.1) (when (isBool (toF (List.getD r0.1 0 em))) (ifB (!(toBool (toF (List.getD r0.1 0 em))))
 (some (.ret, X_ref09_Flat_1_0 false))
 (L_ref09_Flat_1_0 R k w n a (IntKind.wrap .i64 (b + 1)) c d e f g h i j))))))
 (some ((.exit 0), X_ref09_Flat_1_1)) := by kernel_rfl
theorem X_ref09_Flat_1_0_eq (R : Orc) (k : Nat) (w a : Bool) : K_ref09_Flat_1 R k w .ret (X_ref09_Flat_1_0 a) = some ([.fz (.bool a)], []) := by kernel_rfl
theorem X_ref09_Flat_1_1_eq (R : Orc) (k : Nat) (w : Bool) : K_ref09_Flat_1 R k w (.exit 0) (X_ref09_Flat_1_1) = some ([.fz (.bool true)], []) := by kernel_rfl
/-! keyhole/keyholeref09.Labels -/
def C_ref09_Labels : ACode := codeOf 48 Try.f48
def A_ref09_Labels_b1 : ACode := C_ref09_Labels.at [1, 1, 0, 0, 1, 0, 0]
def A_ref09_Labels_s1 : ACode := C_ref09_Labels.at [1, 1, 0, 1]
def A_ref09_Labels_j2 : ACode := C_ref09_Labels.at [1, 1, 0]
def A_ref09_Labels : AFunc := ⟨2, [(.tmp 4, .fz)], C_ref09_Labels, none⟩
def J_ref09_Labels_2_0 (R : Orc) (k : Nat) (w : Bool) (a : List FV) (b c d e f : Int) (g : ByteArray) (h i : List FV) := execL R k w [] A_ref09_Labels_j2 Ans ⟨[(0, .fz (.sl a)), (3, .ptr 4096 0 0)], [(4095, .dead), (4096, .var 8 true (.fz (.ag [.int .i64 b, .int .i64 c, .int .i64 d, .int .i64 e, .int .i64 f, .str g, .sl h, .sl i])))]⟩ (kFin R [(.tmp 4, .fz)] [])
def K_ref09_Labels_1 (R : Orc) (k : Nat) (w : Bool) : AExit → St → Option Ans := (kBlk 0 (kSeq R k w [] A_ref09_Labels_s1 (kFin R [(.tmp 4, .fz)] [])))
def L_ref09_Labels_1_0 (R : Orc) (k : Nat) (w : Bool) (n : Nat) (a : List FV) (b c d e f g : Int) (h : ByteArray) (i j : List FV) := loopL R k w [] [0, 3, 5] [4] A_ref09_Labels_b1 n ⟨[(0, .fz (.sl a)), (3, .ptr 4096 0 0), (5, .fz (.int .i64 b))], [(4095, .dead), (4096, .var 8 true (.fz (.ag [.int .i64 c, .int .i64 d, .int .i64 e, .int .i64 f, .int .i64 g, .str h, .sl i, .sl j])))]⟩
def X_ref09_Labels_1_0 (a : Bool) : St := ⟨[(4, .fz (.bool a))], [(4095, .dead)]⟩
def X_ref09_Labels_1_1 : St := ⟨[], [(4095, .dead)]⟩
theorem E_ref09_Labels (R : Orc) (k : Nat) (w : Bool) (a : List FV) (b c d e f : Int) (g : ByteArray) (h i : List FV) : callL R k w A_ref09_Labels [.fz (.sl a), .fz (.ag [.int .i64 b, .int .i64 c, .int .i64 d, .int .i64 e, .int .i64 f, .str g, .sl h, .sl i])] = ifB (decide (b < 0))
 (some ([.fz (.bool false)], []))
 (ifB (decide (b ≥ (List.length a : Int)))
 (some ([.fz (.bool false)], []))
 (jump w (J_ref09_Labels_2_0 R k w a b c d e f g h i))) := by kernel_rfl
theorem J_ref09_Labels_2_0_eq (R : Orc) (k : Nat) (w : Bool) (a : List FV) (b c d e f : Int) (g : ByteArray) (h i : List FV) : J_ref09_Labels_2_0 R k w a b c d e f g h i = onL (L_ref09_Labels_1_0 R k w k a 0 b c d e f g h i) (K_ref09_Labels_1 R k w) := by kernel_rfl
theorem L_ref09_Labels_1_0_eq (R : Orc) (k : Nat) (w : Bool) (n : Nat) (a : List FV) (b c d e f g : Int) (h : ByteArray) (i j : List FV) : L_ref09_Labels_1_0 R k w (n + 1) a b c d e f g h i j = ifB (decide (b < (List.length i : Int)))
 (when ((decide (0 ≤ b)) && (decide (b < (List.length i : Int)))) (when (fits 8 true (List.getD i (Int.toNat b) nilp)) (onR (R N_ref09_Labels [.fz (.sl a), .fz (List.getD i (Int.toNat b) nilp)]) fun r0 => when (List.isEmpty r0.2 && allF [.fz] r0.1) (when (isBool (toF (List.getD r0.1 0 em))) (ifB (!(toBool (toF (List.getD r0.1 0 em))))
 (some (.ret, X_ref09_Labels_1_0 false))
 (L_ref09_Labels_1_0 R k w n a (IntKind.wrap .i64 (b + 1)) c d e f g h i j))))))
 (some ((.exit 0), X_ref09_Labels_1_1)) := by kernel_rfl
theorem X_ref09_Labels_1_0_eq (R : Orc) (k : Nat) (w a : Bool) : K_ref09_Labels_1 R k w .ret (X_ref09_Labels_1_0 a) = some ([.fz (.bool a)], []) := by kernel_rfl
theorem X_ref09_Labels_1_1_eq (R : Orc) (k : Nat) (w : Bool) : K_ref09_Labels_1 R k w (.exit 0) (X_ref09_Labels_1_1) = some ([.fz (.bool true)], []) := by kernel_rfl
/-! keyhole/keyholeref09.right -/
def C_ref09_right : ACode := codeOf 49 Try.f49
def A_ref09_right_b1 : ACode := C_ref09_right.at [1, 1, 0, 1, 0, 0]
def A_ref09_right_s1 : ACode := C_ref09_right.at [1, 1, 1]
def A_ref09_right : AFunc := ⟨2, [(.tmp 4, .fz)], C_ref09_right, none⟩
def K_ref09_right_1 (R : Orc) (k : Nat) (w : Bool) : AExit → St → Option Ans := (kBlk 0 (kSeq R k w [] A_ref09_right_s1 (kFin R [(.tmp 4, .fz)] [])))
def L_ref09_right_1_0 (R : Orc) (k : Nat) (w : Bool) (n : Nat) (a : List FV) (b c d e f g : Int) (h : ByteArray) (i j : List FV) := loopL R k w [] [0, 3, 5] [4] A_ref09_right_b1 n ⟨[(0, .fz (.sl a)), (3, .ptr 4096 0 0), (5, .fz (.int .i64 b))], [(4095, .dead), (4096, .var 8 true (.fz (.ag [.int .i64 c, .int .i64 d, .int .i64 e, .int .i64 f, .int .i64 g, .str h, .sl i, .sl j])))]⟩
def X_ref09_right_1_0 (a : Bool) : St := ⟨[(4, .fz (.bool a))], [(4095, .dead)]⟩
def X_ref09_right_1_1 : St := ⟨[], [(4095, .dead)]⟩
theorem E_ref09_right (R : Orc) (k : Nat) (w : Bool) (a : List FV) (b c d e f : Int) (g : ByteArray) (h i : List FV) : callL R k w A_ref09_right [.fz (.sl a), .fz (.ag [.int .i64 b, .int .i64 c, .int .i64 d, .int .i64 e, .int .i64 f, .str g, .sl h, .sl i])] = onR (R N_ref09_Deep [.fz (.sl a), .fz (.ag [.int .i64 b, .int .i64 c, .int .i64 d, .int .i64 e, .int .i64 f, .str g, .sl h, .sl i])]) fun r0 => when (List.isEmpty r0.2 && allF [.fz] r0.1) (when (isInt .i64 (toF (List.getD r0.1 0 em))) (ifB (c != (toInt (toF (List.getD r0.1 0 em))))
 (some ([.fz (.bool false)], []))
 (onL (L_ref09_right_1_0 R k w k a 0 b c d e f g h i) (K_ref09_right_1 R k w)))) := by kernel_rfl
theorem L_ref09_right_1_0_eq (R : Orc) (k : Nat) (w : Bool) (n : Nat) (a : List FV) (b c d e f g : Int) (h : ByteArray) (i j : List FV) : L_ref09_right_1_0 R k w (n + 1) a b c d e f g h i j = ifB (decide (b < (List.length i : Int)))
 (when ((decide (0 ≤ b)) && (decide (b < (List.length i : Int)))) (when (fits 8 true (List.getD i (Int.toNat b) nilp)) (onR (R N_ref09_right [.fz (.sl a), .fz (List.getD i (Int.toNat b) nilp)]) fun r1 => when (List.isEmpty r1.2 && allF [.fz] r1.1) (when (isBool (toF (List.getD r1.1 0 em))) (ifB (!(toBool (toF (List.getD r1.1 0 em))))
 (some (.ret, X_ref09_right_1_0 false))
 (L_ref09_right_1_0 R k w n a (IntKind.wrap .i64 (b + 1)) c d e f g h i j))))))
 (some ((.exit 0), X_ref09_right_1_1)) := by kernel_rfl
theorem X_ref09_right_1_0_eq (R : Orc) (k : Nat) (w a : Bool) : K_ref09_right_1 R k w .ret (X_ref09_right_1_0 a) = some ([.fz (.bool a)], []) := by kernel_rfl
theorem X_ref09_right_1_1_eq (R : Orc) (k : Nat) (w : Bool) : K_ref09_right_1 R k w (.exit 0) (X_ref09_right_1_1) = some ([.fz (.bool true)], []) := by kernel_rfl
/-! keyhole/keyholeref09.shape -/
def C_ref09_shape : ACode := codeOf 50 Try.f50
def A_ref09_shape_b1 : ACode := C_ref09_shape.at [1, 1, 1, 1, 0, 0, 1, 0, 0]
def A_ref09_shape_b2 : ACode := C_ref09_shape.at [1, 1, 1, 1, 0, 1, 1, 0, 1, 0, 0]
def A_ref09_shape_s1 : ACode := C_ref09_shape.at [1, 1, 1, 1, 0, 1, 1, 1]
def A_ref09_shape_s2 : ACode := C_ref09_shape.at [1, 1, 1, 1, 0, 1]
def A_ref09_shape_j3 : ACode := C_ref09_shape.at [1, 1, 1, 1, 0]
def A_ref09_shape : AFunc := ⟨1, [(.tmp 2, .fz)], C_ref09_shape, none⟩
def J_ref09_shape_3_0 (R : Orc) (k : Nat) (w : Bool) (a b c : Int) (d : ByteArray) (e f : List FV) (g h i : Int) (j : ByteArray) (l : List FV) := execL R k w [] A_ref09_shape_j3 Ans ⟨[(1, .ptr 4096 0 0), (3, .ptr 4097 0 0)], [(4095, .dead), (4096, .var 6 true (.fz (.ag [.int .i64 a, .int .i64 b, .int .i64 c, .str d, .sl e, .sl f]))), (4097, .var 6 true (.ag [.fz (.int .i64 g), .fz (.int .i64 h), .fz (.int .i64 i), .fz (.str j), .nils, .fz (.sl l)]))]⟩ (kFin R [(.tmp 2, .fz)] [])
def K_ref09_shape_1 (R : Orc) (k : Nat) (w : Bool) : AExit → St → Option Ans := (kBlk 0 (kSeq R k w [] A_ref09_shape_s2 (kFin R [(.tmp 2, .fz)] [])))
def L_ref09_shape_1_0 (R : Orc) (k : Nat) (w : Bool) (n : Nat) (a b c d : Int) (e : ByteArray) (f g : List FV) (h i j : Int) (l : ByteArray) (m : List FV) := loopL R k w [] [1, 3, 4] [1, 3] A_ref09_shape_b1 n ⟨[(1, .ptr 4096 0 0), (3, .ptr 4097 0 0), (4, .fz (.int .i64 a))], [(4095, .dead), (4096, .var 6 true (.fz (.ag [.int .i64 b, .int .i64 c, .int .i64 d, .str e, .sl f, .sl g]))), (4097, .var 6 true (.ag [.fz (.int .i64 h), .fz (.int .i64 i), .fz (.int .i64 j), .fz (.str l), .nils, .fz (.sl m)]))]⟩
def L_ref09_shape_1_1 (R : Orc) (k : Nat) (w : Bool) (n : Nat) (a b c d : Int) (e : ByteArray) (f g : List FV) (h i j : Int) (l : ByteArray) (m o : List FV) := loopL R k w [] [1, 3, 4] [1, 3] A_ref09_shape_b1 n ⟨[(1, .ptr 4096 0 0), (3, .ptr 4097 0 0), (4, .fz (.int .i64 a))], [(4095, .dead), (4096, .var 6 true (.fz (.ag [.int .i64 b, .int .i64 c, .int .i64 d, .str e, .sl f, .sl g]))), (4097, .var 6 true (.ag [.fz (.int .i64 h), .fz (.int .i64 i), .fz (.int .i64 j), .fz (.str l), .rw 4098, .fz (.sl m)])), (4098, .row 6 true o)]⟩
def X_ref09_shape_1_0 (a b c : Int) (d : ByteArray) (e f : List FV) (g h i : Int) (j : ByteArray) (l : List FV) : St := ⟨[(1, .ptr 4096 0 0), (3, .ptr 4097 0 0)], [(4095, .dead), (4096, .var 6 true (.fz (.ag [.int .i64 a, .int .i64 b, .int .i64 c, .str d, .sl e, .sl f]))), (4097, .var 6 true (.ag [.fz (.int .i64 g), .fz (.int .i64 h), .fz (.int .i64 i), .fz (.str j), .nils, .fz (.sl l)]))]⟩
def X_ref09_shape_1_1 (a b c : Int) (d : ByteArray) (e f : List FV) (g h i : Int) (j : ByteArray) (l m : List FV) : St := ⟨[(1, .ptr 4096 0 0), (3, .ptr 4097 0 0)], [(4095, .dead), (4096, .var 6 true (.fz (.ag [.int .i64 a, .int .i64 b, .int .i64 c, .str d, .sl e, .sl f]))), (4097, .var 6 true (.ag [.fz (.int .i64 g), .fz (.int .i64 h), .fz (.int .i64 i), .fz (.str j), .rw 4098, .fz (.sl l)])), (4098, .row 6 true m)]⟩
def K_ref09_shape_2 (R : Orc) (k : Nat) (w : Bool) : AExit → St → Option Ans := (kBlk 2 (kSeq R k w [] A_ref09_shape_s1 (kFin R [(.tmp 2, .fz)] [])))
def L_ref09_shape_2_0 (R : Orc) (k : Nat) (w : Bool) (n : Nat) (a b c d : Int) (e : ByteArray) (f g : List FV) := loopL R k w [] [1, 5] [2] A_ref09_shape_b2 n ⟨[(1, .ptr 4096 0 0), (5, .fz (.int .i64 a))], [(4095, .dead), (4096, .var 6 true (.fz (.ag [.int .i64 b, .int .i64 c, .int .i64 d, .str e, .sl f, .sl g])))]⟩
def X_ref09_shape_2_0 (a : Bool) : St := ⟨[(2, .fz (.bool a))], [(4095, .dead)]⟩
def X_ref09_shape_2_1 : St := ⟨[], [(4095, .dead)]⟩
theorem E_ref09_shape (R : Orc) (k : Nat) (w : Bool) (a b c : Int) (d : ByteArray) (e f : List FV) : callL R k w A_ref09_shape [.fz (.ag [.int .i64 a, .int .i64 b, .int .i64 c, .str d, .sl e, .sl f])] = ifB (a == 6)
 (ifB ((List.length f : Int) != (List.length e : Int))
 (some ([.fz (.bool false)], []))
 (ifB (a != 5)
 (ifB (a != 6)
 (ifB (decide ((List.length e : Int) > 0))
 (some ([.fz (.bool false)], []))
 (jump w (J_ref09_shape_3_0 R k w a b c d e f a b c d f)))
 (jump w (J_ref09_shape_3_0 R k w a b c d e f a b c d f)))
 (jump w (J_ref09_shape_3_0 R k w a b c d e f a b c d f))))
 (ifB (a != 5)
 (ifB (a != 6)
 (ifB (decide ((List.length e : Int) > 0))
 (some ([.fz (.bool false)], []))
 (jump w (J_ref09_shape_3_0 R k w a b c d e f a b c d f)))
 (jump w (J_ref09_shape_3_0 R k w a b c d e f a b c d f)))
 (jump w (J_ref09_shape_3_0 R k w a b c d e f a b c d f))) := by kernel_rfl
theorem J_ref09_shape_3_0_eq (R : Orc) (k : Nat) (w : Bool) (a b c : Int) (d : ByteArray) (e f : List FV) (g h i : Int) (j : ByteArray) (l : List FV) : J_ref09_shape_3_0 R k w a b c d e f g h i j l = onL (L_ref09_shape_1_0 R k w k 0 a b c d e f g h i j l) (K_ref09_shape_1 R k w) := by kernel_rfl
theorem L_ref09_shape_1_0_eq (R : Orc) (k : Nat) (w : Bool) (n : Nat) (a b c d : Int) (e : ByteArray) (f g : List FV) (h i j : Int) (l : ByteArray) (m : List FV) : L_ref09_shape_1_0 R k w (n + 1) a b c d e f g h i j l m = ifB (decide (a < (List.length g : Int)))
 (when (decide (((0 : Nat) + List.length [(FV.ag [.int .i64 0, .int .i64 0, .int .i64 0, (.str (⟨#[]⟩ : ByteArray)), .sl [], .sl []])]) * 88 ≤ roomy) && decide ((0 : Nat) + List.length [(FV.ag [.int .i64 0, .int .i64 0, .int .i64 0, (.str (⟨#[]⟩ : ByteArray)), .sl [], .sl []])] ≤ roomy)) (L_ref09_shape_1_1 R k w n (IntKind.wrap .i64 (a + 1)) b c d e f g h i j l m [(.ag [.int .i64 0, .int .i64 0, .int .i64 0, (.str (⟨#[]⟩ : ByteArray)), .sl [], .sl []])]))
 (some ((.exit 0), X_ref09_shape_1_0 b c d e f g h i j l m)) := by kernel_rfl
theorem L_ref09_shape_1_1_eq (R : Orc) (k : Nat) (w : Bool) (n : Nat) (a b c d : Int) (e : ByteArray) (f g : List FV) (h i j : Int) (l : ByteArray) (m o : List FV) : L_ref09_shape_1_1 R k w (n + 1) a b c d e f g h i j l m o = ifB (decide (a < (List.length g : Int)))
 (when (decide ((List.length o + List.length [(FV.ag [.int .i64 0, .int .i64 0, .int .i64 0, (.str (⟨#[]⟩ : ByteArray)), .sl [], .sl []])]) * 88 ≤ roomy) && decide (List.length o + List.length [(FV.ag [.int .i64 0, .int .i64 0, .int .i64 0, (.str (⟨#[]⟩ : ByteArray)), .sl [], .sl []])] ≤ roomy)) (L_ref09_shape_1_1 R k w n (IntKind.wrap .i64 (a + 1)) b c d e f g h i j l m (o ++ [(FV.ag [.int .i64 0, .int .i64 0, .int .i64 0, (.str (⟨#[]⟩ : ByteArray)), .sl [], .sl []])])))
 (some ((.exit 0), X_ref09_shape_1_1 b c d e f g h i j l m o)) := by kernel_rfl
theorem X_ref09_shape_1_0_eq (R : Orc) (k : Nat) (w : Bool) (a b c : Int) (d : ByteArray) (e f : List FV) (g h i : Int) (j : ByteArray) (l : List FV) : K_ref09_shape_1 R k w (.exit 0) (X_ref09_shape_1_0 a b c d e f g h i j l) = onR (R N_ref05_Is [.fz (.ag [.int .i64 g, .int .i64 h, .int .i64 i, .str j, .sl [], .sl l]), .fz (.int .i64 0)]) fun r0 => when (List.isEmpty r0.2 && allF [.fz] r0.1) (when (isBool (toF (List.getD r0.1 0 em))) (ifB (!(toBool (toF (List.getD r0.1 0 em))))
 (some ([.fz (.bool false)], []))
 (onL (L_ref09_shape_2_0 R k w k 0 a b c d e f) (K_ref09_shape_2 R k w)))) := by kernel_rfl
theorem X_ref09_shape_1_1_eq (R : Orc) (k : Nat) (w : Bool) (a b c : Int) (d : ByteArray) (e f : List FV) (g h i : Int) (j : ByteArray) (l m : List FV) : K_ref09_shape_1 R k w (.exit 0) (X_ref09_shape_1_1 a b c d e f g h i j l m) = onR (R N_ref05_Is [.fz (.ag [.int .i64 g, .int .i64 h, .int .i64 i, .str j, .sl m, .sl l]), .fz (.int .i64 0)]) fun r1 => when (List.isEmpty r1.2 && allF [.fz] r1.1) (when (isBool (toF (List.getD r1.1 0 em))) (ifB (!(toBool (toF (List.getD r1.1 0 em))))
 (some ([.fz (.bool false)], []))
 (onL (L_ref09_shape_2_0 R k w k 0 a b c d e f) (K_ref09_shape_2 R k w)))) := by kernel_rfl
theorem L_ref09_shape_2_0_eq (R : Orc) (k : Nat) (w : Bool) (n : Nat) (a b c d : Int) (e : ByteArray) (f g : List FV) : L_ref09_shape_2_0 R k w (n + 1) a b c d e f g = ifB (decide (a < (List.length f : Int)))
 (when ((decide (0 ≤ a)) && (decide (a < (List.length f : Int)))) (when (fits 6 true (List.getD f (Int.toNat a) nilp)) (onR (R N_ref09_shape [.fz (List.getD f (Int.toNat a) nilp)]) fun r2 => when (List.isEmpty r2.2 && allF [.fz] r2.1) (when (isBool (toF (List.getD r2.1 0 em))) (ifB (!(toBool (toF (List.getD r2.1 0 em))))
 (some (.ret, X_ref09_shape_2_0 false))
 (L_ref09_shape_2_0 R k w n (IntKind.wrap .i64 (a + 1)) b c d e f g))))))
 (some ((.exit 2), X_ref09_shape_2_1)) := by kernel_rfl
theorem X_ref09_shape_2_0_eq (R : Orc) (k : Nat) (w a : Bool) : K_ref09_shape_2 R k w .ret (X_ref09_shape_2_0 a) = some ([.fz (.bool a)], []) := by kernel_rfl
theorem X_ref09_shape_2_1_eq (R : Orc) (k : Nat) (w : Bool) : K_ref09_shape_2 R k w (.exit 2) (X_ref09_shape_2_1) = some ([.fz (.bool true)], []) := by kernel_rfl
/-! keyhole/keyholeref09.Strip -/
def C_ref09_Strip : ACode := codeOf 51 Try.f51
def A_ref09_Strip_b1 : ACode := C_ref09_Strip.at [1, 1, 1, 1, 1, 1, 0, 1, 0, 0]
def A_ref09_Strip_s1 : ACode := C_ref09_Strip.at [1, 1, 1, 1, 1, 1, 1]
def A_ref09_Strip : AFunc := ⟨1, [(.cell 2 6 true, .fz)], C_ref09_Strip, none⟩
def K_ref09_Strip_1 (R : Orc) (k : Nat) (w : Bool) : AExit → St → Option Ans := (kBlk 0 (kSeq R k w [] A_ref09_Strip_s1 (kFin R [(.cell 2 6 true, .fz)] [])))
def L_ref09_Strip_1_0 (R : Orc) (k : Nat) (w : Bool) (n : Nat) (a b c d e f : Int) (g : ByteArray) (h i : List FV) (j l m : Int) (o : ByteArray) (p q s : Int) (t : ByteArray) := loopL R k w [] [1, 2, 3, 4] [2, 3] A_ref09_Strip_b1 n ⟨[(1, .ptr 4096 0 0), (2, .ptr 4097 0 0), (3, .ptr 4098 0 0), (4, .fz (.int .i64 a))], [(4095, .dead), (4096, .var 8 true (.fz (.ag [.int .i64 b, .int .i64 c, .int .i64 d, .int .i64 e, .int .i64 f, .str g, .sl h, .sl i]))), (4097, .var 6 true (.ag [.fz (.int .i64 j), .fz (.int .i64 l), .fz (.int .i64 m), .fz (.str o), .nils, .nils])), (4098, .var 6 true (.ag [.fz (.int .i64 p), .fz (.int .i64 q), .fz (.int .i64 s), .fz (.str t), .nils, .nils]))]⟩
def L_ref09_Strip_1_1 (R : Orc) (k : Nat) (w : Bool) (n : Nat) (a b c d e f : Int) (g : ByteArray) (h i : List FV) (j l m : Int) (o : ByteArray) (p q s : Int) (t : ByteArray) (u : List FV) := loopL R k w [] [1, 2, 3, 4] [2, 3] A_ref09_Strip_b1 n ⟨[(1, .ptr 4096 0 0), (2, .ptr 4097 0 0), (3, .ptr 4098 0 0), (4, .fz (.int .i64 a))], [(4095, .dead), (4096, .var 8 true (.fz (.ag [.int .i64 b, .int .i64 c, .int .i64 d, .int .i64 e, .int .i64 f, .str g, .sl h, .sl i]))), (4097, .var 6 true (.ag [.fz (.int .i64 j), .fz (.int .i64 l), .fz (.int .i64 m), .fz (.str o), .nils, .nils])), (4098, .var 6 true (.ag [.fz (.int .i64 p), .fz (.int .i64 q), .fz (.int .i64 s), .fz (.str t), .nils, .rw 4099])), (4099, .row 1 false u)]⟩
def L_ref09_Strip_1_2 (R : Orc) (k : Nat) (w : Bool) (n : Nat) (a b c d e f : Int) (g : ByteArray) (h i : List FV) (j l m : Int) (o : ByteArray) (p q s : Int) (t : ByteArray) (u : List FV) := loopL R k w [] [1, 2, 3, 4] [2, 3] A_ref09_Strip_b1 n ⟨[(1, .ptr 4096 0 0), (2, .ptr 4097 0 0), (3, .ptr 4098 0 0), (4, .fz (.int .i64 a))], [(4095, .dead), (4096, .var 8 true (.fz (.ag [.int .i64 b, .int .i64 c, .int .i64 d, .int .i64 e, .int .i64 f, .str g, .sl h, .sl i]))), (4097, .var 6 true (.ag [.fz (.int .i64 j), .fz (.int .i64 l), .fz (.int .i64 m), .fz (.str o), .nils, .nils])), (4098, .var 6 true (.ag [.fz (.int .i64 p), .fz (.int .i64 q), .fz (.int .i64 s), .fz (.str t), .rw 4099, .nils])), (4099, .row 6 true u)]⟩
def X_ref09_Strip_1_0 (a b c : Int) (d : ByteArray) (e f g : Int) (h : ByteArray) : St := ⟨[(2, .ptr 4096 0 0), (3, .ptr 4097 0 0)], [(4095, .dead), (4096, .var 6 true (.ag [.fz (.int .i64 a), .fz (.int .i64 b), .fz (.int .i64 c), .fz (.str d), .nils, .nils])), (4097, .var 6 true (.ag [.fz (.int .i64 e), .fz (.int .i64 f), .fz (.int .i64 g), .fz (.str h), .nils, .nils]))]⟩
def L_ref09_Strip_1_3 (R : Orc) (k : Nat) (w : Bool) (n : Nat) (a b c d e f : Int) (g : ByteArray) (h i : List FV) (j l m : Int) (o : ByteArray) (p q s : Int) (t : ByteArray) (u v : List FV) := loopL R k w [] [1, 2, 3, 4] [2, 3] A_ref09_Strip_b1 n ⟨[(1, .ptr 4096 0 0), (2, .ptr 4097 0 0), (3, .ptr 4098 0 0), (4, .fz (.int .i64 a))], [(4095, .dead), (4096, .var 8 true (.fz (.ag [.int .i64 b, .int .i64 c, .int .i64 d, .int .i64 e, .int .i64 f, .str g, .sl h, .sl i]))), (4097, .var 6 true (.ag [.fz (.int .i64 j), .fz (.int .i64 l), .fz (.int .i64 m), .fz (.str o), .nils, .nils])), (4098, .var 6 true (.ag [.fz (.int .i64 p), .fz (.int .i64 q), .fz (.int .i64 s), .fz (.str t), .rw 4099, .rw 4100])), (4099, .row 6 true u), (4100, .row 1 false v)]⟩
def X_ref09_Strip_1_1 (a b c : Int) (d : ByteArray) (e f g : Int) (h : ByteArray) (i : List FV) : St := ⟨[(2, .ptr 4096 0 0), (3, .ptr 4097 0 0)], [(4095, .dead), (4096, .var 6 true (.ag [.fz (.int .i64 a), .fz (.int .i64 b), .fz (.int .i64 c), .fz (.str d), .nils, .nils])), (4097, .var 6 true (.ag [.fz (.int .i64 e), .fz (.int .i64 f), .fz (.int .i64 g), .fz (.str h), .nils, .rw 4098])), (4098, .row 1 false i)]⟩
def X_ref09_Strip_1_2 (a b c : Int) (d : ByteArray) (e f g : Int) (h : ByteArray) (i : List FV) : St := ⟨[(2, .ptr 4096 0 0), (3, .ptr 4097 0 0)], [(4095, .dead), (4096, .var 6 true (.ag [.fz (.int .i64 a), .fz (.int .i64 b), .fz (.int .i64 c), .fz (.str d), .nils, .nils])), (4097, .var 6 true (.ag [.fz (.int .i64 e), .fz (.int .i64 f), .fz (.int .i64 g), .fz (.str h), .rw 4098, .nils])), (4098, .row 6 true i)]⟩
def X_ref09_Strip_1_3 (a b c : Int) (d : ByteArray) (e f g : Int) (h : ByteArray) (i j : List FV) : St := ⟨[(2, .ptr 4096 0 0), (3, .ptr 4097 0 0)], [(4095, .dead), (4096, .var 6 true (.ag [.fz (.int .i64 a), .fz (.int .i64 b), .fz (.int .i64 c), .fz (.str d), .nils, .nils])), (4097, .var 6 true (.ag [.fz (.int .i64 e), .fz (.int .i64 f), .fz (.int .i64 g), .fz (.str h), .rw 4098, .rw 4099])), (4098, .row 6 true i), (4099, .row 1 false j)]⟩
theorem E_ref09_Strip (R : Orc) (k : Nat) (w : Bool) (a b c d e : Int) (f : ByteArray) (g h : List FV) : callL R k w A_ref09_Strip [.fz (.ag [.int .i64 a, .int .i64 b, .int .i64 c, .int .i64 d, .int .i64 e, .str f, .sl g, .sl h])] = when (List.all h (fits 1 false)) (when (decide (((0 : Nat) + List.length h) * 16 ≤ roomy) && decide ((0 : Nat) + List.length h ≤ roomy)) (ifB (List.isEmpty h)
 (onL (L_ref09_Strip_1_0 R k w k 0 a b c d e f g h 0 0 0 (⟨#[]⟩ : ByteArray) c d e f) (K_ref09_Strip_1 R k w))
 (onL (L_ref09_Strip_1_1 R k w k 0 a b c d e f g h 0 0 0 (⟨#[]⟩ : ByteArray) c d e f h) (K_ref09_Strip_1 R k w)))) := by kernel_rfl
theorem L_ref09_Strip_1_0_eq (R : Orc) (k : Nat) (w : Bool) (n : Nat) (a b c d e f : Int) (g : ByteArray) (h i : List FV) (j l m : Int) (o : ByteArray) (p q s : Int) (t : ByteArray) : L_ref09_Strip_1_0 R k w (n + 1) a b c d e f g h i j l m o p q s t = ifB (decide (a < (List.length h : Int)))
 (when ((decide (0 ≤ a)) && (decide (a < (List.length h : Int)))) (when (fits 8 true (List.getD h (Int.toNat a) nilp)) (onR (R N_ref09_Strip [.fz (List.getD h (Int.toNat a) nilp)]) fun r0 => when (List.isEmpty r0.2 && allF [.fz] r0.1) (when (((fits 6 true (toF (List.getD r0.1 0 em))) && true) && true) (when (decide (((0 : Nat) + List.length [(toF (List.getD r0.1 0 em))]) * 88 ≤ roomy) && decide ((0 : Nat) + List.length [(toF (List.getD r0.1 0 em))] ≤ roomy)) (L_ref09_Strip_1_2 R k w n (IntKind.wrap .i64 (a + 1)) b c d e f g h i j l m o p q s t [(toF (List.getD r0.1 0 em))]))))))
 (some ((.exit 0), X_ref09_Strip_1_0 j l m o p q s t)) := by kernel_rfl
theorem L_ref09_Strip_1_1_eq (R : Orc) (k : Nat) (w : Bool) (n : Nat) (a b c d e f : Int) (g : ByteArray) (h i : List FV) (j l m : Int) (o : ByteArray) (p q s : Int) (t : ByteArray) (u : List FV) : L_ref09_Strip_1_1 R k w (n + 1) a b c d e f g h i j l m o p q s t u = ifB (decide (a < (List.length h : Int)))
 (when ((decide (0 ≤ a)) && (decide (a < (List.length h : Int)))) (when (fits 8 true (List.getD h (Int.toNat a) nilp)) (onR (R N_ref09_Strip [.fz (List.getD h (Int.toNat a) nilp)]) fun r1 => when (List.isEmpty r1.2 && allF [.fz] r1.1) (when (((fits 6 true (toF (List.getD r1.1 0 em))) && true) && true) (when (decide (((0 : Nat) + List.length [(toF (List.getD r1.1 0 em))]) * 88 ≤ roomy) && decide ((0 : Nat) + List.length [(toF (List.getD r1.1 0 em))] ≤ roomy)) (L_ref09_Strip_1_3 R k w n (IntKind.wrap .i64 (a + 1)) b c d e f g h i j l m o p q s t [(toF (List.getD r1.1 0 em))] u))))))
 (some ((.exit 0), X_ref09_Strip_1_1 j l m o p q s t u)) := by kernel_rfl
theorem L_ref09_Strip_1_2_eq (R : Orc) (k : Nat) (w : Bool) (n : Nat) (a b c d e f : Int) (g : ByteArray) (h i : List FV) (j l m : Int) (o : ByteArray) (p q s : Int) (t : ByteArray) (u : List FV) : L_ref09_Strip_1_2 R k w (n + 1) a b c d e f g h i j l m o p q s t u = ifB (decide (a < (List.length h : Int)))
 (when ((decide (0 ≤ a)) && (decide (a < (List.length h : Int)))) (when (fits 8 true (List.getD h (Int.toNat a) nilp)) (onR (R N_ref09_Strip [.fz (List.getD h (Int.toNat a) nilp)]) fun r2 => when (List.isEmpty r2.2 && allF [.fz] r2.1) (when (((fits 6 true (toF (List.getD r2.1 0 em))) && true) && true) (when (decide ((List.length u + List.length [(toF (List.getD r2.1 0 em))]) * 88 ≤ roomy) && decide (List.length u + List.length [(toF (List.getD r2.1 0 em))] ≤ roomy)) (L_ref09_Strip_1_2 R k w n (IntKind.wrap .i64 (a + 1)) b c d e f g h i j l m o p q s t (u ++ [(toF (List.getD r2.1 0 em))])))))))
 (some ((.exit 0), X_ref09_Strip_1_2 j l m o p q s t u)) := by kernel_rfl
theorem X_ref09_Strip_1_0_eq (R : Orc) (k : Nat) (w : Bool) (a b c : Int) (d : ByteArray) (e f g : Int) (h : ByteArray) : K_ref09_Strip_1 R k w (.exit 0) (X_ref09_Strip_1_0 a b c d e f g h) = some ([.fz (.ag [.int .i64 e, .int .i64 f, .int .i64 g, .str h, .sl [], .sl []])], []) := by kernel_rfl
theorem L_ref09_Strip_1_3_eq (R : Orc) (k : Nat) (w : Bool) (n : Nat) (a b c d e f : Int) (g : ByteArray) (h i : List FV) (j l m : Int) (o : ByteArray) (p q s : Int) (t : ByteArray) (u v : List FV) : L_ref09_Strip_1_3 R k w (n + 1) a b c d e f g h i j l m o p q s t u v = ifB (decide (a < (List.length h : Int)))
 (when ((decide (0 ≤ a)) && (decide (a < (List.length h : Int)))) (when (fits 8 true (List.getD h (Int.toNat a) nilp)) (onR (R N_ref09_Strip [.fz (List.getD h (Int.toNat a) nilp)]) fun r3 => when (List.isEmpty r3.2 && allF [.fz] r3.1) (when (((fits 6 true (toF (List.getD r3.1 0 em))) && true) && true) (when (decide ((List.length u + List.length [(toF (List.getD r3.1 0 em))]) * 88 ≤ roomy) && decide (List.length u + List.length [(toF (List.getD r3.1 0 em))] ≤ roomy)) (L_ref09_Strip_1_3 R k w n (IntKind.wrap .i64 (a + 1)) b c d e f g h i j l m o p q s t (u ++ [(toF (List.getD r3.1 0 em))]) v))))))
 (some ((.exit 0), X_ref09_Strip_1_3 j l m o p q s t u v)) := by kernel_rfl
theorem X_ref09_Strip_1_1_eq (R : Orc) (k : Nat) (w : Bool) (a b c : Int) (d : ByteArray) (e f g : Int) (h : ByteArray) (i : List FV) : K_ref09_Strip_1 R k w (.exit 0) (X_ref09_Strip_1_1 a b c d e f g h i) = some ([.fz (.ag [.int .i64 e, .int .i64 f, .int .i64 g, .str h, .sl [], .sl i])], []) := by kernel_rfl
theorem X_ref09_Strip_1_2_eq (R : Orc) (k : Nat) (w : Bool) (a b c : Int) (d : ByteArray) (e f g : Int) (h : ByteArray) (i : List FV) : K_ref09_Strip_1 R k w (.exit 0) (X_ref09_Strip_1_2 a b c d e f g h i) = some ([.fz (.ag [.int .i64 e, .int .i64 f, .int .i64 g, .str h, .sl i, .sl []])], []) := by kernel_rfl
theorem X_ref09_Strip_1_3_eq (R : Orc) (k : Nat) (w : Bool) (a b c : Int) (d : ByteArray) (e f g : Int) (h : ByteArray) (i j : List FV) : K_ref09_Strip_1 R k w (.exit 0) (X_ref09_Strip_1_3 a b c d e f g h i j) = some ([.fz (.ag [.int .i64 e, .int .i64 f, .int .i64 g, .str h, .sl i, .sl j])], []) := by kernel_rfl
/-! keyhole/keyholeref09.Bottom -/
def C_ref09_Bottom : ACode := codeOf 52 Try.f52
def A_ref09_Bottom_b1 : ACode := C_ref09_Bottom.at [1, 0, 1, 0, 0, 1, 0, 0, 1, 0, 1, 0, 0]
def A_ref09_Bottom_s1 : ACode := C_ref09_Bottom.at [1, 0, 1, 0, 0, 1, 0, 0, 1, 1]
def A_ref09_Bottom_s2 : ACode := C_ref09_Bottom.at [1, 0, 1, 0, 0, 1, 1]
def A_ref09_Bottom_b2 : ACode := C_ref09_Bottom.at [1, 0, 1, 0, 0]
def A_ref09_Bottom_s3 : ACode := C_ref09_Bottom.at [1, 1]
def A_ref09_Bottom : AFunc := ⟨1, [(.tmp 2, .fz)], C_ref09_Bottom, none⟩
def K_ref09_Bottom_2 (R : Orc) (k : Nat) (w : Bool) : AExit → St → Option Ans := (kBlk 0 (kSeq R k w [] A_ref09_Bottom_s3 (kFin R [(.tmp 2, .fz)] [])))
def L_ref09_Bottom_2_0 (R : Orc) (k : Nat) (w : Bool) (n : Nat) (a : List FV) (b : Int) := loopL R k w [] [0, 3] [2] A_ref09_Bottom_b2 n ⟨[(0, .fz (.sl a)), (3, .fz (.int .i64 b))], [(4095, .dead)]⟩
def K_ref09_Bottom_1 (R : Orc) (k : Nat) (w : Bool) (n : Nat) : AExit → St → Option (AExit × St) := (kBlk 2 (kSeq R k w [] A_ref09_Bottom_s1 (kBlk 1 (kSeq R k w [] A_ref09_Bottom_s2 (kLoop R k w [] [0, 3] [2] A_ref09_Bottom_b2 n)))))
def L_ref09_Bottom_1_0 (R : Orc) (k : Nat) (w : Bool) (n : Nat) (a : List FV) (b : Int) (c : Bool) (d : Int) := loopL R k w [] [0, 3, 4, 5] [0, 3, 4] A_ref09_Bottom_b1 n ⟨[(0, .fz (.sl a)), (3, .fz (.int .i64 b)), (4, .fz (.bool c)), (5, .fz (.int .i64 d))], [(4095, .dead)]⟩
def X_ref09_Bottom_2_0 : St := ⟨[], [(4095, .dead)]⟩
def X_ref09_Bottom_1_0 (a : List FV) (b : Int) (c : Bool) : St := ⟨[(0, .fz (.sl a)), (3, .fz (.int .i64 b)), (4, .fz (.bool c))], [(4095, .dead)]⟩
def X_ref09_Bottom_2_1 (a : Int) : St := ⟨[(2, .fz (.int .i64 a))], [(4095, .dead)]⟩
theorem E_ref09_Bottom (R : Orc) (k : Nat) (w : Bool) (a : List FV) : callL R k w A_ref09_Bottom [.fz (.sl a)] = onL (L_ref09_Bottom_2_0 R k w k a 0) (K_ref09_Bottom_2 R k w) := by kernel_rfl
theorem L_ref09_Bottom_2_0_eq (R : Orc) (k : Nat) (w : Bool) (n : Nat) (a : List FV) (b : Int) : L_ref09_Bottom_2_0 R k w (n + 1) a b = ifB (decide (b < (List.length a : Int)))
 (onL (L_ref09_Bottom_1_0 R k w k a b true 0) (K_ref09_Bottom_1 R k w n))
 (some ((.exit 0), X_ref09_Bottom_2_0)) := by kernel_rfl
theorem L_ref09_Bottom_1_0_eq (R : Orc) (k : Nat) (w : Bool) (n : Nat) (a : List FV) (b : Int) (c : Bool) (d : Int) : L_ref09_Bottom_1_0 R k w (n + 1) a b c d = ifB (decide (d < (List.length a : Int)))
 (ifB c
 (when ((decide (0 ≤ b)) && (decide (b < (List.length a : Int)))) (when (fits 1 false (List.getD a (Int.toNat b) nilp)) (when (isSl (List.getD a (Int.toNat b) nilp)) (when ((decide (0 ≤ d)) && (decide (d < (List.length (toSl (List.getD a (Int.toNat b) nilp)) : Int)))) (when (fits 1 false (List.getD (toSl (List.getD a (Int.toNat b) nilp)) (Int.toNat d) nilp)) (when (isBool (List.getD (toSl (List.getD a (Int.toNat b) nilp)) (Int.toNat d) nilp)) (L_ref09_Bottom_1_0 R k w n a b (toBool (List.getD (toSl (List.getD a (Int.toNat b) nilp)) (Int.toNat d) nilp)) (IntKind.wrap .i64 (d + 1)))))))))
 (L_ref09_Bottom_1_0 R k w n a b false (IntKind.wrap .i64 (d + 1))))
 (some ((.exit 2), X_ref09_Bottom_1_0 a b c)) := by kernel_rfl
theorem X_ref09_Bottom_2_0_eq (R : Orc) (k : Nat) (w : Bool) : K_ref09_Bottom_2 R k w (.exit 0) (X_ref09_Bottom_2_0) = some ([.fz (.int .i64 0)], []) := by kernel_rfl
theorem X_ref09_Bottom_1_0_eq (R : Orc) (k : Nat) (w : Bool) (n : Nat) (a : List FV) (b : Int) (c : Bool) : K_ref09_Bottom_1 R k w n (.exit 2) (X_ref09_Bottom_1_0 a b c) = ifB c
 (some (.ret, X_ref09_Bottom_2_1 b))
 (L_ref09_Bottom_2_0 R k w n a (IntKind.wrap .i64 (b + 1))) := by kernel_rfl
theorem X_ref09_Bottom_2_1_eq (R : Orc) (k : Nat) (w : Bool) (a : Int) : K_ref09_Bottom_2 R k w .ret (X_ref09_Bottom_2_1 a) = some ([.fz (.int .i64 a)], []) := by kernel_rfl
/-! keyhole/keyholeref09.Deep -/
def C_ref09_Deep : ACode := codeOf 53 Try.f53
def A_ref09_Deep_b1 : ACode := C_ref09_Deep.at [1, 1, 0, 1, 0, 0]
def A_ref09_Deep_s1 : ACode := C_ref09_Deep.at [1, 1, 1]
def A_ref09_Deep : AFunc := ⟨2, [(.tmp 4, .fz)], C_ref09_Deep, none⟩
def K_ref09_Deep_1 (R : Orc) (k : Nat) (w : Bool) : AExit → St → Option Ans := (kBlk 0 (kSeq R k w [] A_ref09_Deep_s1 (kFin R [(.tmp 4, .fz)] [])))
def L_ref09_Deep_1_0 (R : Orc) (k : Nat) (w : Bool) (n : Nat) (a : List FV) (b c d e f g h : Int) (i : ByteArray) (j l : List FV) := loopL R k w [] [0, 3, 5, 6] [5] A_ref09_Deep_b1 n ⟨[(0, .fz (.sl a)), (3, .ptr 4096 0 0), (5, .fz (.int .i64 b)), (6, .fz (.int .i64 c))], [(4095, .dead), (4096, .var 8 true (.fz (.ag [.int .i64 d, .int .i64 e, .int .i64 f, .int .i64 g, .int .i64 h, .str i, .sl j, .sl l])))]⟩
def X_ref09_Deep_1_0 (a : Int) : St := ⟨[(5, .fz (.int .i64 a))], [(4095, .dead)]⟩
theorem E_ref09_Deep (R : Orc) (k : Nat) (w : Bool) (a : List FV) (b c d e f : Int) (g : ByteArray) (h i : List FV) : callL R k w A_ref09_Deep [.fz (.sl a), .fz (.ag [.int .i64 b, .int .i64 c, .int .i64 d, .int .i64 e, .int .i64 f, .str g, .sl h, .sl i])] = onL (L_ref09_Deep_1_0 R k w k a b 0 b c d e f g h i) (K_ref09_Deep_1 R k w) := by kernel_rfl
theorem L_ref09_Deep_1_0_eq (R : Orc) (k : Nat) (w : Bool) (n : Nat) (a : List FV) (b c d e f g h : Int) (i : ByteArray) (j l : List FV) : L_ref09_Deep_1_0 R k w (n + 1) a b c d e f g h i j l = ifB (decide (c < (List.length j : Int)))
 (when ((decide (0 ≤ c)) && (decide (c < (List.length j : Int)))) (when (fits 8 true (List.getD j (Int.toNat c) nilp)) (onR (R N_ref09_Deep [.fz (.sl a), .fz (List.getD j (Int.toNat c) nilp)]) fun r0 => when (List.isEmpty r0.2 && allF [.fz] r0.1) (when (isInt .i64 (toF (List.getD r0.1 0 em))) (onR (R N_ref09_Join [.fz (.sl a), .fz (.int .i64 b), .fz (.int .i64 (toInt (toF (List.getD r0.1 0 em))))]) fun r1 => when (List.isEmpty r1.2 && allF [.fz] r1.1) (when (isInt .i64 (toF (List.getD r1.1 0 em))) (L_ref09_Deep_1_0 R k w n a (toInt (toF (List.getD r1.1 0 em))) (IntKind.wrap .i64 (c + 1)) d e f g h i j l)))))))
 (some ((.exit 0), X_ref09_Deep_1_0 b)) := by kernel_rfl
theorem X_ref09_Deep_1_0_eq (R : Orc) (k : Nat) (w : Bool) (a : Int) : K_ref09_Deep_1 R k w (.exit 0) (X_ref09_Deep_1_0 a) = some ([.fz (.int .i64 a)], []) := by kernel_rfl
/-! keyhole/ltype.least -/
def C_ltype_least : ACode := codeOf 54 Try.f54
def A_ltype_least_j1 : ACode := C_ltype_least.at [1, 1, 0, 1, 0, 0, 1, 1, 0, 0, 1, 0, 1, 0]
def A_ltype_least_j2 : ACode := C_ltype_least.at [1, 1, 0, 1, 0, 0, 1, 1, 0, 0, 1, 1, 0]
def A_ltype_least_s3 : ACode := C_ltype_least.at [1, 1, 0, 1, 0, 0, 1, 1, 0, 0, 1, 1]
def A_ltype_least_s4 : ACode := C_ltype_least.at [1, 1, 0, 1, 0, 0, 1, 1, 1]
def A_ltype_least_b1 : ACode := C_ltype_least.at [1, 1, 0, 1, 0, 0]
def A_ltype_least_s5 : ACode := C_ltype_least.at [1, 1, 1]
def A_ltype_least : AFunc := ⟨3, [(.cell 6 4 true, .fz)], C_ltype_least, none⟩
def K_ltype_least_1 (R : Orc) (k : Nat) (w : Bool) : AExit → St → Option Ans := (kBlk 0 (kSeq R k w [] A_ltype_least_s5 (kFin R [(.cell 6 4 true, .fz)] [])))
def L_ltype_least_1_0 (R : Orc) (k : Nat) (w : Bool) (n : Nat) (a : FV) (b : Int) (c : List FV) (d e f g h i j : Int) (l : ByteArray) (m o : List FV) (p q s t : Int) := loopL R k w [] [0, 2, 4, 6, 7, 16, 17, 18] [4, 6, 7] A_ltype_least_b1 n ⟨[(0, .fz (.pt 195 true a 0)), (2, .fz (.int .i64 b)), (4, .ptr 4096 0 0), (6, .ptr 4097 0 0), (7, .ptr 4098 0 0), (16, .fz (.sl c)), (17, .fz (.int .i64 d)), (18, .fz (.int .i64 e))], [(4095, .dead), (4096, .var 8 true (.fz (.ag [.int .i64 f, .int .i64 g, .int .i64 h, .int .i64 i, .int .i64 j, .str l, .sl m, .sl o]))), (4097, .var 4 true (.ag [.fz (.int .i64 p), .nils, .nils, .fz (.int .i64 q)])), (4098, .var 4 true (.ag [.fz (.int .i64 s), .nils, .nils, .fz (.int .i64 t)]))]⟩
def J_ltype_least_1_0 (R : Orc) (k : Nat) (w : Bool) (n : Nat) (a : FV) (b : Int) (c : List FV) (d e : Int) (f : Bool) (g h i j l : Int) (m : ByteArray) (o p : List FV) (q s t u : Int) (v : FV) := execL R k w [] A_ltype_least_j1 (AExit × St) ⟨[(0, .fz (.pt 195 true a 0)), (2, .fz (.int .i64 b)), (4, .ptr 4096 0 0), (6, .ptr 4097 0 0), (7, .ptr 4098 0 0), (9, .ptr 4099 0 0), (16, .fz (.sl c)), (17, .fz (.int .i64 d)), (18, .fz (.int .i64 e)), (28, .fz (.bool f))], [(4095, .dead), (4096, .var 8 true (.fz (.ag [.int .i64 g, .int .i64 h, .int .i64 i, .int .i64 j, .int .i64 l, .str m, .sl o, .sl p]))), (4097, .var 4 true (.ag [.fz (.int .i64 q), .nils, .nils, .fz (.int .i64 s)])), (4098, .var 4 true (.ag [.fz (.int .i64 t), .nils, .nils, .fz (.int .i64 u)])), (4099, .var 8 true (.fz v))]⟩ (kSeq R k w [] A_ltype_least_s3 (kBlk 1 (kSeq R k w [] A_ltype_least_s4 (kLoop R k w [] [0, 2, 4, 6, 7, 16, 17, 18] [4, 6, 7] A_ltype_least_b1 n))))
def X_ltype_least_1_0 (a b c d e : Int) (f : ByteArray) (g h : List FV) (i j l m : Int) : St := ⟨[(4, .ptr 4096 0 0), (6, .ptr 4097 0 0), (7, .ptr 4098 0 0)], [(4095, .dead), (4096, .var 8 true (.fz (.ag [.int .i64 a, .int .i64 b, .int .i64 c, .int .i64 d, .int .i64 e, .str f, .sl g, .sl h]))), (4097, .var 4 true (.ag [.fz (.int .i64 i), .nils, .nils, .fz (.int .i64 j)])), (4098, .var 4 true (.ag [.fz (.int .i64 l), .nils, .nils, .fz (.int .i64 m)]))]⟩
def L_ltype_least_1_1 (R : Orc) (k : Nat) (w : Bool) (n : Nat) (a : FV) (b : Int) (c : List FV) (d e f g h i j : Int) (l : ByteArray) (m o : List FV) (p q s t : Int) (u : List FV) := loopL R k w [] [0, 2, 4, 6, 7, 16, 17, 18] [4, 6, 7] A_ltype_least_b1 n ⟨[(0, .fz (.pt 195 true a 0)), (2, .fz (.int .i64 b)), (4, .ptr 4096 0 0), (6, .ptr 4097 0 0), (7, .ptr 4098 0 0), (16, .fz (.sl c)), (17, .fz (.int .i64 d)), (18, .fz (.int .i64 e))], [(4095, .dead), (4096, .var 8 true (.fz (.ag [.int .i64 f, .int .i64 g, .int .i64 h, .int .i64 i, .int .i64 j, .str l, .sl m, .sl o]))), (4097, .var 4 true (.ag [.fz (.int .i64 p), .nils, .nils, .fz (.int .i64 q)])), (4098, .var 4 true (.ag [.fz (.int .i64 s), .nils, .rw 4099, .fz (.int .i64 t)])), (4099, .row 4 true u)]⟩
def J_ltype_least_2_0 (R : Orc) (k : Nat) (w : Bool) (n : Nat) (a : FV) (b : Int) (c : List FV) (d e f g h i j : Int) (l : ByteArray) (m o : List FV) (p q s t : Int) (u : FV) := execL R k w [] A_ltype_least_j2 (AExit × St) ⟨[(0, .fz (.pt 195 true a 0)), (2, .fz (.int .i64 b)), (4, .ptr 4096 0 0), (6, .ptr 4097 0 0), (7, .ptr 4098 0 0), (9, .ptr 4099 0 0), (16, .fz (.sl c)), (17, .fz (.int .i64 d)), (18, .fz (.int .i64 e))], [(4095, .dead), (4096, .var 8 true (.fz (.ag [.int .i64 f, .int .i64 g, .int .i64 h, .int .i64 i, .int .i64 j, .str l, .sl m, .sl o]))), (4097, .var 4 true (.ag [.fz (.int .i64 p), .nils, .nils, .fz (.int .i64 q)])), (4098, .var 4 true (.ag [.fz (.int .i64 s), .nils, .nils, .fz (.int .i64 t)])), (4099, .var 8 true (.fz u))]⟩ (kBlk 1 (kSeq R k w [] A_ltype_least_s4 (kLoop R k w [] [0, 2, 4, 6, 7, 16, 17, 18] [4, 6, 7] A_ltype_least_b1 n)))
def J_ltype_least_1_1 (R : Orc) (k : Nat) (w : Bool) (n : Nat) (a : FV) (b : Int) (c : List FV) (d e : Int) (f : Bool) (g h i j l : Int) (m : ByteArray) (o p : List FV) (q s t u : Int) (v : List FV) (x : FV) := execL R k w [] A_ltype_least_j1 (AExit × St) ⟨[(0, .fz (.pt 195 true a 0)), (2, .fz (.int .i64 b)), (4, .ptr 4096 0 0), (6, .ptr 4097 0 0), (7, .ptr 4098 0 0), (9, .ptr 4100 0 0), (16, .fz (.sl c)), (17, .fz (.int .i64 d)), (18, .fz (.int .i64 e)), (28, .fz (.bool f))], [(4095, .dead), (4096, .var 8 true (.fz (.ag [.int .i64 g, .int .i64 h, .int .i64 i, .int .i64 j, .int .i64 l, .str m, .sl o, .sl p]))), (4097, .var 4 true (.ag [.fz (.int .i64 q), .nils, .nils, .fz (.int .i64 s)])), (4098, .var 4 true (.ag [.fz (.int .i64 t), .nils, .rw 4099, .fz (.int .i64 u)])), (4099, .row 4 true v), (4100, .var 8 true (.fz x))]⟩ (kSeq R k w [] A_ltype_least_s3 (kBlk 1 (kSeq R k w [] A_ltype_least_s4 (kLoop R k w [] [0, 2, 4, 6, 7, 16, 17, 18] [4, 6, 7] A_ltype_least_b1 n))))
def X_ltype_least_1_1 (a b c d e : Int) (f : ByteArray) (g h : List FV) (i j l m : Int) (o : List FV) : St := ⟨[(4, .ptr 4096 0 0), (6, .ptr 4097 0 0), (7, .ptr 4098 0 0)], [(4095, .dead), (4096, .var 8 true (.fz (.ag [.int .i64 a, .int .i64 b, .int .i64 c, .int .i64 d, .int .i64 e, .str f, .sl g, .sl h]))), (4097, .var 4 true (.ag [.fz (.int .i64 i), .nils, .nils, .fz (.int .i64 j)])), (4098, .var 4 true (.ag [.fz (.int .i64 l), .nils, .rw 4099, .fz (.int .i64 m)])), (4099, .row 4 true o)]⟩
def J_ltype_least_2_1 (R : Orc) (k : Nat) (w : Bool) (n : Nat) (a : FV) (b : Int) (c : List FV) (d e f g h i j : Int) (l : ByteArray) (m o : List FV) (p q s t : Int) (u : List FV) (v : FV) := execL R k w [] A_ltype_least_j2 (AExit × St) ⟨[(0, .fz (.pt 195 true a 0)), (2, .fz (.int .i64 b)), (4, .ptr 4096 0 0), (6, .ptr 4097 0 0), (7, .ptr 4098 0 0), (9, .ptr 4100 0 0), (16, .fz (.sl c)), (17, .fz (.int .i64 d)), (18, .fz (.int .i64 e))], [(4095, .dead), (4096, .var 8 true (.fz (.ag [.int .i64 f, .int .i64 g, .int .i64 h, .int .i64 i, .int .i64 j, .str l, .sl m, .sl o]))), (4097, .var 4 true (.ag [.fz (.int .i64 p), .nils, .nils, .fz (.int .i64 q)])), (4098, .var 4 true (.ag [.fz (.int .i64 s), .nils, .rw 4099, .fz (.int .i64 t)])), (4099, .row 4 true u), (4100, .var 8 true (.fz v))]⟩ (kBlk 1 (kSeq R k w [] A_ltype_least_s4 (kLoop R k w [] [0, 2, 4, 6, 7, 16, 17, 18] [4, 6, 7] A_ltype_least_b1 n)))
theorem E_ltype_least (R : Orc) (k : Nat) (w : Bool) (a : FV) (b c d e f : Int) (g : ByteArray) (h i : List FV) (j : Int) : callL R k w A_ltype_least [.fz (.pt 195 true a 0), .fz (.ag [.int .i64 b, .int .i64 c, .int .i64 d, .int .i64 e, .int .i64 f, .str g, .sl h, .sl i]), .fz (.int .i64 j)] = onR (R N_level_Lattice_Bottom [.fz (.pt 195 true a 0)]) fun r0 => when (List.isEmpty r0.2 && allF [.fz] r0.1) (when (isInt .i64 (toF (List.getD r0.1 0 em))) (onL (L_ltype_least_1_0 R k w k a j h (List.length h : Int) 0 b c d e f g h i 0 0 b (toInt (toF (List.getD r0.1 0 em)))) (K_ltype_least_1 R k w))) := by kernel_rfl
theorem L_ltype_least_1_0_eq (R : Orc) (k : Nat) (w : Bool) (n : Nat) (a : FV) (b : Int) (c : List FV) (d e f g h i j : Int) (l : ByteArray) (m o : List FV) (p q s t : Int) : L_ltype_least_1_0 R k w (n + 1) a b c d e f g h i j l m o p q s t = ifB (decide (e < d))
 (when ((decide (0 ≤ e)) && (decide (e < (List.length c : Int)))) (when (fits 8 true (List.getD c (Int.toNat e) nilp)) (when (fits 8 true (List.getD c (Int.toNat e) nilp)) (ifB (h == 6)
 (jump w (J_ltype_least_1_0 R k w n a b c d e (decide (b > 0)) f g h i j l m o p q s t (List.getD c (Int.toNat e) nilp)))
 (jump w (J_ltype_least_1_0 R k w n a b c d e false f g h i j l m o p q s t (List.getD c (Int.toNat e) nilp)))))))
 (some ((.exit 0), X_ltype_least_1_0 f g h i j l m o p q s t)) := by kernel_rfl
theorem J_ltype_least_1_0_eq (R : Orc) (k : Nat) (w : Bool) (n : Nat) (a : FV) (b : Int) (c : List FV) (d e : Int) (f : Bool) (g h i j l : Int) (m : ByteArray) (o p : List FV) (q s t u : Int) (v : FV) : J_ltype_least_1_0 R k w n a b c d e f g h i j l m o p q s t u v = ifB f
 (onR (R N_ltype_least [.fz (.pt 195 true a 0), .fz v, .fz (.int .i64 (IntKind.wrap .i64 (b - 1)))]) fun r1 => when (List.isEmpty r1.2 && allF [.fz] r1.1) (when (((fits 4 true (toF (List.getD r1.1 0 em))) && true) && true) (when (decide (((0 : Nat) + List.length [(toF (List.getD r1.1 0 em))]) * 64 ≤ roomy) && decide ((0 : Nat) + List.length [(toF (List.getD r1.1 0 em))] ≤ roomy)) (L_ltype_least_1_1 R k w n a b c d (IntKind.wrap .i64 (e + 1)) g h i j l m o p q s t u [(toF (List.getD r1.1 0 em))]))))
 (jump w (J_ltype_least_2_0 R k w n a b c d e g h i j l m o p q s t u v)) := by kernel_rfl
theorem X_ltype_least_1_0_eq (R : Orc) (k : Nat) (w : Bool) (a b c d e : Int) (f : ByteArray) (g h : List FV) (i j l m : Int) : K_ltype_least_1 R k w (.exit 0) (X_ltype_least_1_0 a b c d e f g h i j l m) = some ([.fz (.ag [.int .i64 l, .sl [], .sl [], .int .i64 m])], []) := by kernel_rfl
theorem L_ltype_least_1_1_eq (R : Orc) (k : Nat) (w : Bool) (n : Nat) (a : FV) (b : Int) (c : List FV) (d e f g h i j : Int) (l : ByteArray) (m o : List FV) (p q s t : Int) (u : List FV) : L_ltype_least_1_1 R k w (n + 1) a b c d e f g h i j l m o p q s t u = ifB (decide (e < d))
 (when ((decide (0 ≤ e)) && (decide (e < (List.length c : Int)))) (when (fits 8 true (List.getD c (Int.toNat e) nilp)) (when (fits 8 true (List.getD c (Int.toNat e) nilp)) (ifB (h == 6)
 (jump w (J_ltype_least_1_1 R k w n a b c d e (decide (b > 0)) f g h i j l m o p q s t u (List.getD c (Int.toNat e) nilp)))
 (jump w (J_ltype_least_1_1 R k w n a b c d e false f g h i j l m o p q s t u (List.getD c (Int.toNat e) nilp)))))))
 (some ((.exit 0), X_ltype_least_1_1 f g h i j l m o p q s t u)) := by kernel_rfl
theorem J_ltype_least_2_0_eq (R : Orc) (k : Nat) (w : Bool) (n : Nat) (a : FV) (b : Int) (c : List FV) (d e f g h i j : Int) (l : ByteArray) (m o : List FV) (p q s t : Int) (u : FV) : J_ltype_least_2_0 R k w n a b c d e f g h i j l m o p q s t u = when (isAg 8 u) (when (isInt .i64 (cell u 1)) (onR (R N_level_Lattice_Join [.fz (.pt 195 true a 0), .fz (.int .i64 t), .fz (.int .i64 (toInt (cell u 1)))]) fun r2 => when (List.isEmpty r2.2 && allF [.fz] r2.1) (when (isInt .i64 (toF (List.getD r2.1 0 em))) (L_ltype_least_1_0 R k w n a b c d (IntKind.wrap .i64 (e + 1)) f g h i j l m o p q s (toInt (toF (List.getD r2.1 0 em))))))) := by kernel_rfl
theorem J_ltype_least_1_1_eq (R : Orc) (k : Nat) (w : Bool) (n : Nat) (a : FV) (b : Int) (c : List FV) (d e : Int) (f : Bool) (g h i j l : Int) (m : ByteArray) (o p : List FV) (q s t u : Int) (v : List FV) (x : FV) : J_ltype_least_1_1 R k w n a b c d e f g h i j l m o p q s t u v x = ifB f
 (onR (R N_ltype_least [.fz (.pt 195 true a 0), .fz x, .fz (.int .i64 (IntKind.wrap .i64 (b - 1)))]) fun r3 => when (List.isEmpty r3.2 && allF [.fz] r3.1) (when (((fits 4 true (toF (List.getD r3.1 0 em))) && true) && true) (when (decide ((List.length v + List.length [(toF (List.getD r3.1 0 em))]) * 64 ≤ roomy) && decide (List.length v + List.length [(toF (List.getD r3.1 0 em))] ≤ roomy)) (L_ltype_least_1_1 R k w n a b c d (IntKind.wrap .i64 (e + 1)) g h i j l m o p q s t u (v ++ [(toF (List.getD r3.1 0 em))])))))
 (jump w (J_ltype_least_2_1 R k w n a b c d e g h i j l m o p q s t u v x)) := by kernel_rfl
theorem X_ltype_least_1_1_eq (R : Orc) (k : Nat) (w : Bool) (a b c d e : Int) (f : ByteArray) (g h : List FV) (i j l m : Int) (o : List FV) : K_ltype_least_1 R k w (.exit 0) (X_ltype_least_1_1 a b c d e f g h i j l m o) = ifB (decide ((List.length o : Int) > 0))
 (onR (R N_slices_Clone___string_string_ [.fz (.sl h)]) fun r4 => when (List.isEmpty r4.2 && allF [.fz] r4.1) (when (fits 1 false (toF (List.getD r4.1 0 em))) (some ([.fz (.ag [.int .i64 l, (toF (List.getD r4.1 0 em)), .sl o, .int .i64 m])], []))))
 (some ([.fz (.ag [.int .i64 l, .sl [], .sl o, .int .i64 m])], [])) := by kernel_rfl
theorem J_ltype_least_2_1_eq (R : Orc) (k : Nat) (w : Bool) (n : Nat) (a : FV) (b : Int) (c : List FV) (d e f g h i j : Int) (l : ByteArray) (m o : List FV) (p q s t : Int) (u : List FV) (v : FV) : J_ltype_least_2_1 R k w n a b c d e f g h i j l m o p q s t u v = when (isAg 8 v) (when (isInt .i64 (cell v 1)) (onR (R N_level_Lattice_Join [.fz (.pt 195 true a 0), .fz (.int .i64 t), .fz (.int .i64 (toInt (cell v 1)))]) fun r5 => when (List.isEmpty r5.2 && allF [.fz] r5.1) (when (isInt .i64 (toF (List.getD r5.1 0 em))) (L_ltype_least_1_1 R k w n a b c d (IntKind.wrap .i64 (e + 1)) f g h i j l m o p q s (toInt (toF (List.getD r5.1 0 em))) u)))) := by kernel_rfl
/-! keyhole/ltype.items -/
def C_ltype_items : ACode := codeOf 55 Try.f55
def A_ltype_items_j1 : ACode := C_ltype_items.at [1, 0, 1, 0, 0, 1, 1, 0, 0, 1, 0, 1, 0]
def A_ltype_items_j2 : ACode := C_ltype_items.at [1, 0, 1, 0, 0, 1, 1, 0, 0, 1, 1, 0]
def A_ltype_items_s3 : ACode := C_ltype_items.at [1, 0, 1, 0, 0, 1, 1, 0, 0, 1, 1]
def A_ltype_items_s4 : ACode := C_ltype_items.at [1, 0, 1, 0, 0, 1, 1, 1]
def A_ltype_items_b1 : ACode := C_ltype_items.at [1, 0, 1, 0, 0]
def A_ltype_items_s5 : ACode := C_ltype_items.at [1, 1]
def A_ltype_items : AFunc := ⟨3, [(.tmp 6, .fz)], C_ltype_items, none⟩
def K_ltype_items_1 (R : Orc) (k : Nat) (w : Bool) : AExit → St → Option Ans := (kBlk 0 (kSeq R k w [] A_ltype_items_s5 (kFin R [(.tmp 6, .fz)] [])))
def L_ltype_items_1_0 (R : Orc) (k : Nat) (w : Bool) (n : Nat) (a : FV) (b : List FV) (c d e : Int) (f g : List FV) (h i j l m o : Int) (p : ByteArray) (q s : List FV) := loopL R k w [] [0, 4, 5, 10, 11, 12] [6] A_ltype_items_b1 n ⟨[(0, .fz (.pt 195 true a 0)), (4, .ptr 4096 0 0), (5, .ptr 4097 0 0), (10, .fz (.sl b)), (11, .fz (.int .i64 c)), (12, .fz (.int .i64 d))], [(4095, .dead), (4096, .var 4 true (.fz (.ag [.int .i64 e, .sl f, .sl g, .int .i64 h]))), (4097, .var 8 true (.fz (.ag [.int .i64 i, .int .i64 j, .int .i64 l, .int .i64 m, .int .i64 o, .str p, .sl q, .sl s])))]⟩
def J_ltype_items_1_0 (R : Orc) (k : Nat) (w : Bool) (n : Nat) (a : FV) (b : Int) (c : List FV) (d e : Int) (f : Bool) (g : Int) (h i : List FV) (j l m o p q : Int) (s : ByteArray) (t u : List FV) (v : FV) := execL R k w [] A_ltype_items_j1 (AExit × St) ⟨[(0, .fz (.pt 195 true a 0)), (4, .ptr 4096 0 0), (5, .ptr 4097 0 0), (7, .fz (.int .i64 b)), (8, .ptr 4098 0 0), (10, .fz (.sl c)), (11, .fz (.int .i64 d)), (12, .fz (.int .i64 e)), (26, .fz (.bool f))], [(4095, .dead), (4096, .var 4 true (.fz (.ag [.int .i64 g, .sl h, .sl i, .int .i64 j]))), (4097, .var 8 true (.fz (.ag [.int .i64 l, .int .i64 m, .int .i64 o, .int .i64 p, .int .i64 q, .str s, .sl t, .sl u]))), (4098, .var 8 true (.fz v))]⟩ (kSeq R k w [] A_ltype_items_s3 (kBlk 1 (kSeq R k w [] A_ltype_items_s4 (kLoop R k w [] [0, 4, 5, 10, 11, 12] [6] A_ltype_items_b1 n))))
def X_ltype_items_1_0 : St := ⟨[], [(4095, .dead)]⟩
def X_ltype_items_1_1 (a : Bool) : St := ⟨[(6, .fz (.bool a))], [(4095, .dead)]⟩
def J_ltype_items_2_0 (R : Orc) (k : Nat) (w : Bool) (n : Nat) (a : FV) (b : List FV) (c d e : Int) (f g : List FV) (h i j l m o : Int) (p : ByteArray) (q s : List FV) (t : FV) := execL R k w [] A_ltype_items_j2 (AExit × St) ⟨[(0, .fz (.pt 195 true a 0)), (4, .ptr 4096 0 0), (5, .ptr 4097 0 0), (8, .ptr 4098 0 0), (10, .fz (.sl b)), (11, .fz (.int .i64 c)), (12, .fz (.int .i64 d))], [(4095, .dead), (4096, .var 4 true (.fz (.ag [.int .i64 e, .sl f, .sl g, .int .i64 h]))), (4097, .var 8 true (.fz (.ag [.int .i64 i, .int .i64 j, .int .i64 l, .int .i64 m, .int .i64 o, .str p, .sl q, .sl s]))), (4098, .var 8 true (.fz t))]⟩ (kBlk 1 (kSeq R k w [] A_ltype_items_s4 (kLoop R k w [] [0, 4, 5, 10, 11, 12] [6] A_ltype_items_b1 n)))
theorem E_ltype_items (R : Orc) (k : Nat) (w : Bool) (a : FV) (b : Int) (c d : List FV) (e f g h i j : Int) (l : ByteArray) (m o : List FV) : callL R k w A_ltype_items [.fz (.pt 195 true a 0), .fz (.ag [.int .i64 b, .sl c, .sl d, .int .i64 e]), .fz (.ag [.int .i64 f, .int .i64 g, .int .i64 h, .int .i64 i, .int .i64 j, .str l, .sl m, .sl o])] = onL (L_ltype_items_1_0 R k w k a m (List.length m : Int) 0 b c d e f g h i j l m o) (K_ltype_items_1 R k w) := by kernel_rfl
theorem L_ltype_items_1_0_eq (R : Orc) (k : Nat) (w : Bool) (n : Nat) (a : FV) (b : List FV) (c d e : Int) (f g : List FV) (h i j l m o : Int) (p : ByteArray) (q s : List FV) : L_ltype_items_1_0 R k w (n + 1) a b c d e f g h i j l m o p q s = ifB (decide (d < c))
 (when ((decide (0 ≤ d)) && (decide (d < (List.length b : Int)))) (when (fits 8 true (List.getD b (Int.toNat d) nilp)) (when (fits 8 true (List.getD b (Int.toNat d) nilp)) (ifB (l == 6)
 (jump w (J_ltype_items_1_0 R k w n a d b c d (decide (d < (List.length s : Int))) e f g h i j l m o p q s (List.getD b (Int.toNat d) nilp)))
 (jump w (J_ltype_items_1_0 R k w n a d b c d false e f g h i j l m o p q s (List.getD b (Int.toNat d) nilp)))))))
 (some ((.exit 0), X_ltype_items_1_0)) := by kernel_rfl
theorem J_ltype_items_1_0_eq (R : Orc) (k : Nat) (w : Bool) (n : Nat) (a : FV) (b : Int) (c : List FV) (d e : Int) (f : Bool) (g : Int) (h i : List FV) (j l m o p q : Int) (s : ByteArray) (t u : List FV) (v : FV) : J_ltype_items_1_0 R k w n a b c d e f g h i j l m o p q s t u v = ifB f
 (when ((decide (0 ≤ b)) && (decide (b < (List.length u : Int)))) (when (fits 1 false (List.getD u (Int.toNat b) nilp)) (when (isStr (List.getD u (Int.toNat b) nilp)) (onR (R N_ltype_Of [.fz (.ag [.int .i64 g, .sl h, .sl i, .int .i64 j]), .fz (.str (toStr (List.getD u (Int.toNat b) nilp)))]) fun r0 => when (List.isEmpty r0.2 && allF [.fz] r0.1) (onR (R N_ltype_Fits [.fz (.pt 195 true a 0), .fz (toF (List.getD r0.1 0 em)), .fz v]) fun r1 => when (List.isEmpty r1.2 && allF [.fz] r1.1) (when (isBool (toF (List.getD r1.1 0 em))) (ifB (!(toBool (toF (List.getD r1.1 0 em))))
 (some (.ret, X_ltype_items_1_1 false))
 (L_ltype_items_1_0 R k w n a c d (IntKind.wrap .i64 (e + 1)) g h i j l m o p q s t u))))))))
 (jump w (J_ltype_items_2_0 R k w n a c d e g h i j l m o p q s t u v)) := by kernel_rfl
theorem X_ltype_items_1_0_eq (R : Orc) (k : Nat) (w : Bool) : K_ltype_items_1 R k w (.exit 0) (X_ltype_items_1_0) = some ([.fz (.bool true)], []) := by kernel_rfl
theorem X_ltype_items_1_1_eq (R : Orc) (k : Nat) (w a : Bool) : K_ltype_items_1 R k w .ret (X_ltype_items_1_1 a) = some ([.fz (.bool a)], []) := by kernel_rfl
theorem J_ltype_items_2_0_eq (R : Orc) (k : Nat) (w : Bool) (n : Nat) (a : FV) (b : List FV) (c d e : Int) (f g : List FV) (h i j l m o : Int) (p : ByteArray) (q s : List FV) (t : FV) : J_ltype_items_2_0 R k w n a b c d e f g h i j l m o p q s t = when (isAg 8 t) (when (isInt .i64 (cell t 1)) (onR (R N_level_Lattice_Leq [.fz (.pt 195 true a 0), .fz (.int .i64 (toInt (cell t 1))), .fz (.int .i64 h)]) fun r2 => when (List.isEmpty r2.2 && allF [.fz] r2.1) (when (isBool (toF (List.getD r2.1 0 em))) (ifB (!(toBool (toF (List.getD r2.1 0 em))))
 (some (.ret, X_ltype_items_1_1 false))
 (L_ltype_items_1_0 R k w n a b c (IntKind.wrap .i64 (d + 1)) e f g h i j l m o p q s))))) := by kernel_rfl
/-! slices.ContainsFunc[[]string,string] -/
def C_slices_ContainsFunc___string_string_ : ACode := codeOf 56 Try.f56
def A_slices_ContainsFunc___string_string_ : AFunc := ⟨2, [(.tmp 4, .fz)], C_slices_ContainsFunc___string_string_, none⟩
theorem E_slices_ContainsFunc___string_string_ (R : Orc) (k : Nat) (w : Bool) (a : List FV) (b : FV) : callL R k w A_slices_ContainsFunc___string_string_ [.fz (.sl a), .fz b] = onR (R N_slices_IndexFunc___string_string_ [.fz (.sl a), .fz b]) fun r0 => when (List.isEmpty r0.2 && allF [.fz] r0.1) (when (isInt .i64 (toF (List.getD r0.1 0 em))) (some ([.fz (.bool (decide ((toInt (toF (List.getD r0.1 0 em))) ≥ 0)))], []))) := by kernel_rfl
/-! keyhole/ltype.Leq$1 -/
def C_ltype_Leq_1 : ACode := codeOf 58 Try.f58
def A_ltype_Leq_1 : AFunc := ⟨4, [(.tmp 5, .fz)], C_ltype_Leq_1, none⟩
theorem E_ltype_Leq_1 (R : Orc) (k : Nat) (w : Bool) (a : ByteArray) (b : FV) (c : Int) (d e : List FV) (f g : Int) (h i : List FV) (j : Int) : callL R k w A_ltype_Leq_1 [.fz (.str a), .fz (.pt 1 false (.pt 195 true b 0) 0), .fz (.pt 4 true (.ag [.int .i64 c, .sl d, .sl e, .int .i64 f]) 0), .fz (.pt 4 true (.ag [.int .i64 g, .sl h, .sl i, .int .i64 j]) 0)] = onR (R N_ltype_Of [.fz (.ag [.int .i64 c, .sl d, .sl e, .int .i64 f]), .fz (.str a)]) fun r0 => when (List.isEmpty r0.2 && allF [.fz] r0.1) (onR (R N_ltype_Of [.fz (.ag [.int .i64 g, .sl h, .sl i, .int .i64 j]), .fz (.str a)]) fun r1 => when (List.isEmpty r1.2 && allF [.fz] r1.1) (onR (R N_ltype_Leq [.fz (.pt 195 true b 0), .fz (toF (List.getD r0.1 0 em)), .fz (toF (List.getD r1.1 0 em))]) fun r2 => when (List.isEmpty r2.2 && allF [.fz] r2.1) (when (isBool (toF (List.getD r2.1 0 em))) (some ([.fz (.bool (!(toBool (toF (List.getD r2.1 0 em)))))], []))))) := by kernel_rfl
/-! keyhole/keyholeref25.Keys -/
def C_ref25_Keys : ACode := codeOf 59 Try.f59
def A_ref25_Keys_j1 : ACode := C_ref25_Keys.at [1, 1, 1, 0, 0, 0, 1, 0, 0, 1, 0, 1, 1, 0]
def A_ref25_Keys_j2 : ACode := C_ref25_Keys.at [1, 1, 1, 0, 0, 0, 1, 0, 0, 1, 0]
def A_ref25_Keys_j3 : ACode := C_ref25_Keys.at [1, 1, 1, 0, 0, 0, 1, 0]
def A_ref25_Keys_b1 : ACode := C_ref25_Keys.at [1, 1, 1, 0, 0, 0]
def A_ref25_Keys_s4 : ACode := C_ref25_Keys.at [1, 1, 1, 1]
def A_ref25_Keys : AFunc := ⟨2, [(.tmp 4, .fz)], C_ref25_Keys, none⟩
def K_ref25_Keys_1 (R : Orc) (k : Nat) (w : Bool) : AExit → St → Option Ans := (kBlk 0 (kSeq R k w [] A_ref25_Keys_s4 (kFin R [(.tmp 4, .fz)] [])))
def L_ref25_Keys_1_0 (R : Orc) (k : Nat) (w : Bool) (n : Nat) (a b c : Int) (d e : List FV) (f g : Int) (h i : List FV) (j : Int) := loopL R k w [] [2, 3, 5, 6, 7] [5] A_ref25_Keys_b1 n ⟨[(2, .ptr 4096 0 0), (3, .ptr 4097 0 0), (5, .nils), (6, .fz (.int .i64 a)), (7, .fz (.int .i64 b))], [(4095, .dead), (4096, .var 4 true (.fz (.ag [.int .i64 c, .sl d, .sl e, .int .i64 f]))), (4097, .var 4 true (.fz (.ag [.int .i64 g, .sl h, .sl i, .int .i64 j])))]⟩
def J_ref25_Keys_3_0 (R : Orc) (k : Nat) (w : Bool) (n : Nat) (a b c : Int) (d e : List FV) (f g : Int) (h i : List FV) (j : Int) := execL R k w [] A_ref25_Keys_j3 (AExit × St) ⟨[(2, .ptr 4096 0 0), (3, .ptr 4097 0 0), (5, .nils), (6, .fz (.int .i64 a)), (7, .fz (.int .i64 b))], [(4095, .dead), (4096, .var 4 true (.fz (.ag [.int .i64 c, .sl d, .sl e, .int .i64 f]))), (4097, .var 4 true (.fz (.ag [.int .i64 g, .sl h, .sl i, .int .i64 j])))]⟩ (kLoop R k w [] [2, 3, 5, 6, 7] [5] A_ref25_Keys_b1 n)
def X_ref25_Keys_1_0 : St := ⟨[(5, .nils)], [(4095, .dead)]⟩
def J_ref25_Keys_2_0 (R : Orc) (k : Nat) (w : Bool) (n : Nat) (a b : Int) (c : Bool) (d : Int) (e f : List FV) (g h : Int) (i j : List FV) (l : Int) := execL R k w [] A_ref25_Keys_j2 (AExit × St) ⟨[(2, .ptr 4096 0 0), (3, .ptr 4097 0 0), (5, .nils), (6, .fz (.int .i64 a)), (7, .fz (.int .i64 b)), (44, .fz (.bool c))], [(4095, .dead), (4096, .var 4 true (.fz (.ag [.int .i64 d, .sl e, .sl f, .int .i64 g]))), (4097, .var 4 true (.fz (.ag [.int .i64 h, .sl i, .sl j, .int .i64 l])))]⟩ (kBlk 1 (kLoop R k w [] [2, 3, 5, 6, 7] [5] A_ref25_Keys_b1 n))
def L_ref25_Keys_1_1 (R : Orc) (k : Nat) (w : Bool) (n : Nat) (a b c : Int) (d e : List FV) (f g : Int) (h i : List FV) (j : Int) (l : List FV) := loopL R k w [] [2, 3, 5, 6, 7] [5] A_ref25_Keys_b1 n ⟨[(2, .ptr 4096 0 0), (3, .ptr 4097 0 0), (5, .rw 4098), (6, .fz (.int .i64 a)), (7, .fz (.int .i64 b))], [(4095, .dead), (4096, .var 4 true (.fz (.ag [.int .i64 c, .sl d, .sl e, .int .i64 f]))), (4097, .var 4 true (.fz (.ag [.int .i64 g, .sl h, .sl i, .int .i64 j]))), (4098, .row 1 false l)]⟩
def J_ref25_Keys_1_0 (R : Orc) (k : Nat) (w : Bool) (n : Nat) (a b c : Int) (d e : List FV) (f g : Int) (h i : List FV) (j : Int) := execL R k w [] A_ref25_Keys_j1 (AExit × St) ⟨[(2, .ptr 4096 0 0), (3, .ptr 4097 0 0), (5, .nils), (6, .fz (.int .i64 a)), (7, .fz (.int .i64 b))], [(4095, .dead), (4096, .var 4 true (.fz (.ag [.int .i64 c, .sl d, .sl e, .int .i64 f]))), (4097, .var 4 true (.fz (.ag [.int .i64 g, .sl h, .sl i, .int .i64 j])))]⟩ (kBlk 1 (kLoop R k w [] [2, 3, 5, 6, 7] [5] A_ref25_Keys_b1 n))
def J_ref25_Keys_3_1 (R : Orc) (k : Nat) (w : Bool) (n : Nat) (a b c : Int) (d e : List FV) (f g : Int) (h i : List FV) (j : Int) (l : List FV) := execL R k w [] A_ref25_Keys_j3 (AExit × St) ⟨[(2, .ptr 4096 0 0), (3, .ptr 4097 0 0), (5, .rw 4098), (6, .fz (.int .i64 a)), (7, .fz (.int .i64 b))], [(4095, .dead), (4096, .var 4 true (.fz (.ag [.int .i64 c, .sl d, .sl e, .int .i64 f]))), (4097, .var 4 true (.fz (.ag [.int .i64 g, .sl h, .sl i, .int .i64 j]))), (4098, .row 1 false l)]⟩ (kLoop R k w [] [2, 3, 5, 6, 7] [5] A_ref25_Keys_b1 n)
def X_ref25_Keys_1_1 (a : List FV) : St := ⟨[(5, .rw 4096)], [(4095, .dead), (4096, .row 1 false a)]⟩
def J_ref25_Keys_2_1 (R : Orc) (k : Nat) (w : Bool) (n : Nat) (a b : Int) (c : Bool) (d : Int) (e f : List FV) (g h : Int) (i j : List FV) (l : Int) (m : List FV) := execL R k w [] A_ref25_Keys_j2 (AExit × St) ⟨[(2, .ptr 4096 0 0), (3, .ptr 4097 0 0), (5, .rw 4098), (6, .fz (.int .i64 a)), (7, .fz (.int .i64 b)), (44, .fz (.bool c))], [(4095, .dead), (4096, .var 4 true (.fz (.ag [.int .i64 d, .sl e, .sl f, .int .i64 g]))), (4097, .var 4 true (.fz (.ag [.int .i64 h, .sl i, .sl j, .int .i64 l]))), (4098, .row 1 false m)]⟩ (kBlk 1 (kLoop R k w [] [2, 3, 5, 6, 7] [5] A_ref25_Keys_b1 n))
def J_ref25_Keys_1_1 (R : Orc) (k : Nat) (w : Bool) (n : Nat) (a b c : Int) (d e : List FV) (f g : Int) (h i : List FV) (j : Int) (l : List FV) := execL R k w [] A_ref25_Keys_j1 (AExit × St) ⟨[(2, .ptr 4096 0 0), (3, .ptr 4097 0 0), (5, .rw 4098), (6, .fz (.int .i64 a)), (7, .fz (.int .i64 b))], [(4095, .dead), (4096, .var 4 true (.fz (.ag [.int .i64 c, .sl d, .sl e, .int .i64 f]))), (4097, .var 4 true (.fz (.ag [.int .i64 g, .sl h, .sl i, .int .i64 j]))), (4098, .row 1 false l)]⟩ (kBlk 1 (kLoop R k w [] [2, 3, 5, 6, 7] [5] A_ref25_Keys_b1 n))
theorem E_ref25_Keys (R : Orc) (k : Nat) (w : Bool) (a : Int) (b c : List FV) (d e : Int) (f g : List FV) (h : Int) : callL R k w A_ref25_Keys [.fz (.ag [.int .i64 a, .sl b, .sl c, .int .i64 d]), .fz (.ag [.int .i64 e, .sl f, .sl g, .int .i64 h])] = onL (L_ref25_Keys_1_0 R k w k 0 0 a b c d e f g h) (K_ref25_Keys_1 R k w) := by kernel_rfl
theorem L_ref25_Keys_1_0_eq (R : Orc) (k : Nat) (w : Bool) (n : Nat) (a b c : Int) (d e : List FV) (f g : Int) (h i : List FV) (j : Int) : L_ref25_Keys_1_0 R k w (n + 1) a b c d e f g h i j = ifB (decide (a < (List.length d : Int)))
 (jump w (J_ref25_Keys_3_0 R k w n a b c d e f g h i j))
 (ifB (decide (b < (List.length h : Int)))
 (jump w (J_ref25_Keys_3_0 R k w n a b c d e f g h i j))
 (some ((.exit 0), X_ref25_Keys_1_0))) := by kernel_rfl
theorem J_ref25_Keys_3_0_eq (R : Orc) (k : Nat) (w : Bool) (n : Nat) (a b c : Int) (d e : List FV) (f g : Int) (h i : List FV) (j : Int) : J_ref25_Keys_3_0 R k w n a b c d e f g h i j = ifB (decide (b ≥ (List.length h : Int)))
 (jump w (J_ref25_Keys_2_0 R k w n a b true c d e f g h i j))
 (ifB (decide (a < (List.length d : Int)))
 (when ((decide (0 ≤ a)) && (decide (a < (List.length d : Int)))) (when (fits 1 false (List.getD d (Int.toNat a) nilp)) (when (isStr (List.getD d (Int.toNat a) nilp)) (when ((decide (0 ≤ b)) && (decide (b < (List.length h : Int)))) (when (fits 1 false (List.getD h (Int.toNat b) nilp)) (when (isStr (List.getD h (Int.toNat b) nilp)) (jump w (J_ref25_Keys_2_0 R k w n a b (Op.bytesLess (ByteArray.toList (toStr (List.getD d (Int.toNat a) nilp))) (ByteArray.toList (toStr (List.getD h (Int.toNat b) nilp)))) c d e f g h i j))))))))
 (jump w (J_ref25_Keys_2_0 R k w n a b false c d e f g h i j))) := by kernel_rfl
theorem X_ref25_Keys_1_0_eq (R : Orc) (k : Nat) (w : Bool) : K_ref25_Keys_1 R k w (.exit 0) (X_ref25_Keys_1_0) = some ([.fz (.sl [])], []) := by kernel_rfl
theorem J_ref25_Keys_2_0_eq (R : Orc) (k : Nat) (w : Bool) (n : Nat) (a b : Int) (c : Bool) (d : Int) (e f : List FV) (g h : Int) (i j : List FV) (l : Int) : J_ref25_Keys_2_0 R k w n a b c d e f g h i j l = ifB c
 (when ((decide (0 ≤ a)) && (decide (a < (List.length e : Int)))) (when (fits 1 false (List.getD e (Int.toNat a) nilp)) (when (isStr (List.getD e (Int.toNat a) nilp)) (when (decide (((0 : Nat) + List.length [(FV.str (toStr (List.getD e (Int.toNat a) nilp)))]) * 16 ≤ roomy) && decide ((0 : Nat) + List.length [(FV.str (toStr (List.getD e (Int.toNat a) nilp)))] ≤ roomy)) (L_ref25_Keys_1_1 R k w n (IntKind.wrap .i64 (a + 1)) b d e f g h i j l [(.str (toStr (List.getD e (Int.toNat a) nilp)))])))))
 (ifB (decide (a < (List.length e : Int)))
 (when ((decide (0 ≤ a)) && (decide (a < (List.length e : Int)))) (when (fits 1 false (List.getD e (Int.toNat a) nilp)) (when (isStr (List.getD e (Int.toNat a) nilp)) (when ((decide (0 ≤ b)) && (decide (b < (List.length i : Int)))) (when (fits 1 false (List.getD i (Int.toNat b) nilp)) (when (isStr (List.getD i (Int.toNat b) nilp)) (ifB (ByteArray.toList (toStr (List.getD e (Int.toNat a) nilp)) == ByteArray.toList (toStr (List.getD i (Int.toNat b) nilp)))
 (jump w (J_ref25_Keys_1_0 R k w n (IntKind.wrap .i64 (a + 1)) b d e f g h i j l))
 (jump w (J_ref25_Keys_1_0 R k w n a b d e f g h i j l)))))))))
 (jump w (J_ref25_Keys_1_0 R k w n a b d e f g h i j l))) := by kernel_rfl
theorem L_ref25_Keys_1_1_eq (R : Orc) (k : Nat) (w : Bool) (n : Nat) (a b c : Int) (d e : List FV) (f g : Int) (h i : List FV) (j : Int) (l : List FV) : L_ref25_Keys_1_1 R k w (n + 1) a b c d e f g h i j l = ifB (decide (a < (List.length d : Int)))
 (jump w (J_ref25_Keys_3_1 R k w n a b c d e f g h i j l))
 (ifB (decide (b < (List.length h : Int)))
 (jump w (J_ref25_Keys_3_1 R k w n a b c d e f g h i j l))
 (some ((.exit 0), X_ref25_Keys_1_1 l))) := by kernel_rfl
theorem J_ref25_Keys_1_0_eq (R : Orc) (k : Nat) (w : Bool) (n : Nat) (a b c : Int) (d e : List FV) (f g : Int) (h i : List FV) (j : Int) : J_ref25_Keys_1_0 R k w n a b c d e f g h i j = when ((decide (0 ≤ b)) && (decide (b < (List.length h : Int)))) (when (fits 1 false (List.getD h (Int.toNat b) nilp)) (when (isStr (List.getD h (Int.toNat b) nilp)) (when (decide (((0 : Nat) + List.length [(FV.str (toStr (List.getD h (Int.toNat b) nilp)))]) * 16 ≤ roomy) && decide ((0 : Nat) + List.length [(FV.str (toStr (List.getD h (Int.toNat b) nilp)))] ≤ roomy)) (L_ref25_Keys_1_1 R k w n a (IntKind.wrap .i64 (b + 1)) c d e f g h i j [(.str (toStr (List.getD h (Int.toNat b) nilp)))])))) := by kernel_rfl
theorem J_ref25_Keys_3_1_eq (R : Orc) (k : Nat) (w : Bool) (n : Nat) (a b c : Int) (d e : List FV) (f g : Int) (h i : List FV) (j : Int) (l : List FV) : J_ref25_Keys_3_1 R k w n a b c d e f g h i j l = ifB (decide (b ≥ (List.length h : Int)))
 (jump w (J_ref25_Keys_2_1 R k w n a b true c d e f g h i j l))
 (ifB (decide (a < (List.length d : Int)))
 (when ((decide (0 ≤ a)) && (decide (a < (List.length d : Int)))) (when (fits 1 false (List.getD d (Int.toNat a) nilp)) (when (isStr (List.getD d (Int.toNat a) nilp)) (when ((decide (0 ≤ b)) && (decide (b < (List.length h : Int)))) (when (fits 1 false (List.getD h (Int.toNat b) nilp)) (when (isStr (List.getD h (Int.toNat b) nilp)) (jump w (J_ref25_Keys_2_1 R k w n a b (Op.bytesLess (ByteArray.toList (toStr (List.getD d (Int.toNat a) nilp))) (ByteArray.toList (toStr (List.getD h (Int.toNat b) nilp)))) c d e f g h i j l))))))))
 (jump w (J_ref25_Keys_2_1 R k w n a b false c d e f g h i j l))) := by kernel_rfl
theorem X_ref25_Keys_1_1_eq (R : Orc) (k : Nat) (w : Bool) (a : List FV) : K_ref25_Keys_1 R k w (.exit 0) (X_ref25_Keys_1_1 a) = some ([.fz (.sl a)], []) := by kernel_rfl
theorem J_ref25_Keys_2_1_eq (R : Orc) (k : Nat) (w : Bool) (n : Nat) (a b : Int) (c : Bool) (d : Int) (e f : List FV) (g h : Int) (i j : List FV) (l : Int) (m : List FV) : J_ref25_Keys_2_1 R k w n a b c d e f g h i j l m = ifB c
 (when ((decide (0 ≤ a)) && (decide (a < (List.length e : Int)))) (when (fits 1 false (List.getD e (Int.toNat a) nilp)) (when (isStr (List.getD e (Int.toNat a) nilp)) (when (decide ((List.length m + List.length [(FV.str (toStr (List.getD e (Int.toNat a) nilp)))]) * 16 ≤ roomy) && decide (List.length m + List.length [(FV.str (toStr (List.getD e (Int.toNat a) nilp)))] ≤ roomy)) (L_ref25_Keys_1_1 R k w n (IntKind.wrap .i64 (a + 1)) b d e f g h i j l (m ++ [(FV.str (toStr (List.getD e (Int.toNat a) nilp)))]))))))
 (ifB (decide (a < (List.length e : Int)))
 (when ((decide (0 ≤ a)) && (decide (a < (List.length e : Int)))) (when (fits 1 false (List.getD e (Int.toNat a) nilp)) (when (isStr (List.getD e (Int.toNat a) nilp)) (when ((decide (0 ≤ b)) && (decide (b < (List.length i : Int)))) (when (fits 1 false (List.getD i (Int.toNat b) nilp)) (when (isStr (List.getD i (Int.toNat b) nilp)) (ifB (ByteArray.toList (toStr (List.getD e (Int.toNat a) nilp)) == ByteArray.toList (toStr (List.getD i (Int.toNat b) nilp)))
 (jump w (J_ref25_Keys_1_1 R k w n (IntKind.wrap .i64 (a + 1)) b d e f g h i j l m))
 (jump w (J_ref25_Keys_1_1 R k w n a b d e f g h i j l m)))))))))
 (jump w (J_ref25_Keys_1_1 R k w n a b d e f g h i j l m))) := by kernel_rfl
theorem J_ref25_Keys_1_1_eq (R : Orc) (k : Nat) (w : Bool) (n : Nat) (a b c : Int) (d e : List FV) (f g : Int) (h i : List FV) (j : Int) (l : List FV) : J_ref25_Keys_1_1 R k w n a b c d e f g h i j l = when ((decide (0 ≤ b)) && (decide (b < (List.length h : Int)))) (when (fits 1 false (List.getD h (Int.toNat b) nilp)) (when (isStr (List.getD h (Int.toNat b) nilp)) (when (decide ((List.length l + List.length [(FV.str (toStr (List.getD h (Int.toNat b) nilp)))]) * 16 ≤ roomy) && decide (List.length l + List.length [(FV.str (toStr (List.getD h (Int.toNat b) nilp)))] ≤ roomy)) (L_ref25_Keys_1_1 R k w n a (IntKind.wrap .i64 (b + 1)) c d e f g h i j (l ++ [(FV.str (toStr (List.getD h (Int.toNat b) nilp)))]))))) := by kernel_rfl
/-! (*keyhole/level.Lattice).Join -/
def C_level_Lattice_Join : ACode := codeOf 60 Try.f60
def A_level_Lattice_Join_j1 : ACode := C_level_Lattice_Join.at [1, 1, 0]
def A_level_Lattice_Join : AFunc := ⟨3, [(.tmp 6, .fz)], C_level_Lattice_Join, none⟩
def J_level_Lattice_Join_1_0 (R : Orc) (k : Nat) (w : Bool) (a : FV) (b c : Int) := execL R k w [] A_level_Lattice_Join_j1 Ans ⟨[(0, .fz (.pt 195 true a 0)), (1, .fz (.int .i64 b)), (2, .fz (.int .i64 c))], [(4095, .dead)]⟩ (kFin R [(.tmp 6, .fz)] [])
theorem E_level_Lattice_Join (R : Orc) (k : Nat) (w : Bool) (a : FV) (b c : Int) : callL R k w A_level_Lattice_Join [.fz (.pt 195 true a 0), .fz (.int .i64 b), .fz (.int .i64 c)] = onR (R N_level_Lattice_Is [.fz (.pt 195 true a 0), .fz (.int .i64 b)]) fun r0 => when (List.isEmpty r0.2 && allF [.fz] r0.1) (when (isBool (toF (List.getD r0.1 0 em))) (ifB (!(toBool (toF (List.getD r0.1 0 em))))
 (onR (R N_level_Lattice_Top [.fz (.pt 195 true a 0)]) fun r1 => when (List.isEmpty r1.2 && allF [.fz] r1.1) (when (isInt .i64 (toF (List.getD r1.1 0 em))) (some ([.fz (.int .i64 (toInt (toF (List.getD r1.1 0 em))))], []))))
 (onR (R N_level_Lattice_Is [.fz (.pt 195 true a 0), .fz (.int .i64 c)]) fun r2 => when (List.isEmpty r2.2 && allF [.fz] r2.1) (when (isBool (toF (List.getD r2.1 0 em))) (ifB (!(toBool (toF (List.getD r2.1 0 em))))
 (onR (R N_level_Lattice_Top [.fz (.pt 195 true a 0)]) fun r3 => when (List.isEmpty r3.2 && allF [.fz] r3.1) (when (isInt .i64 (toF (List.getD r3.1 0 em))) (some ([.fz (.int .i64 (toInt (toF (List.getD r3.1 0 em))))], []))))
 (jump w (J_level_Lattice_Join_1_0 R k w a b c))))))) := by kernel_rfl
theorem J_level_Lattice_Join_1_0_eq (R : Orc) (k : Nat) (w : Bool) (a : FV) (b c : Int) : J_level_Lattice_Join_1_0 R k w a b c = when (decide (0 ≤ b) && decide (b < 8)) (when (decide (0 ≤ c) && decide (c < 8)) (when (isAg 195 a) (when (Nat.blt ((65 + ((Int.toNat b) * 8)) + ((Int.toNat c) * 1)) 195) (when (isInt .i64 (cell a ((65 + ((Int.toNat b) * 8)) + ((Int.toNat c) * 1)))) (some ([.fz (.int .i64 (toInt (cell a ((65 + ((Int.toNat b) * 8)) + ((Int.toNat c) * 1)))))], [])))))) := by kernel_rfl
def J_level_Lattice_Join_1_1 (R : Orc) (k : Nat) (w : Bool) (a b : Int) := execL R k w [] A_level_Lattice_Join_j1 Ans ⟨[(0, .fz nilp), (1, .fz (.int .i64 a)), (2, .fz (.int .i64 b))], [(4095, .dead)]⟩ (kFin R [(.tmp 6, .fz)] [])
theorem E_level_Lattice_Join_v1 (R : Orc) (k : Nat) (w : Bool) (a b : Int) : callL R k w A_level_Lattice_Join [.fz nilp, .fz (.int .i64 a), .fz (.int .i64 b)] = onR (R N_level_Lattice_Is [.fz nilp, .fz (.int .i64 a)]) fun r4 => when (List.isEmpty r4.2 && allF [.fz] r4.1) (when (isBool (toF (List.getD r4.1 0 em))) (ifB (!(toBool (toF (List.getD r4.1 0 em))))
 (onR (R N_level_Lattice_Top [.fz nilp]) fun r5 => when (List.isEmpty r5.2 && allF [.fz] r5.1) (when (isInt .i64 (toF (List.getD r5.1 0 em))) (some ([.fz (.int .i64 (toInt (toF (List.getD r5.1 0 em))))], []))))
 (onR (R N_level_Lattice_Is [.fz nilp, .fz (.int .i64 b)]) fun r6 => when (List.isEmpty r6.2 && allF [.fz] r6.1) (when (isBool (toF (List.getD r6.1 0 em))) (ifB (!(toBool (toF (List.getD r6.1 0 em))))
 (onR (R N_level_Lattice_Top [.fz nilp]) fun r7 => when (List.isEmpty r7.2 && allF [.fz] r7.1) (when (isInt .i64 (toF (List.getD r7.1 0 em))) (some ([.fz (.int .i64 (toInt (toF (List.getD r7.1 0 em))))], []))))
 (jump w (J_level_Lattice_Join_1_1 R k w a b))))))) := by kernel_rfl
theorem J_level_Lattice_Join_1_1_eq (R : Orc) (k : Nat) (w : Bool) (a b : Int) : J_level_Lattice_Join_1_1 R k w a b = none := by kernel_rfl
/-! keyhole/keyholeref01.Join -/
def C_ref01_Join : ACode := codeOf 61 Try.f61
def A_ref01_Join_b1 : ACode := C_ref01_Join.at [1, 1, 0, 1, 0, 0, 1, 0, 0, 1, 0, 0, 1, 0, 0]
def A_ref01_Join_s1 : ACode := C_ref01_Join.at [1, 1, 0, 1, 0, 0, 1, 0, 0, 1, 0, 1]
def A_ref01_Join_j2 : ACode := C_ref01_Join.at [1, 1, 0, 1, 0, 0, 1, 0, 0, 1, 0]
def A_ref01_Join_s3 : ACode := C_ref01_Join.at [1, 1, 0, 1, 0, 0, 1, 1]
def A_ref01_Join_b2 : ACode := C_ref01_Join.at [1, 1, 0, 1, 0, 0]
def A_ref01_Join_s4 : ACode := C_ref01_Join.at [1, 1, 1]
def A_ref01_Join : AFunc := ⟨3, [(.tmp 6, .fz)], C_ref01_Join, none⟩
def K_ref01_Join_2 (R : Orc) (k : Nat) (w : Bool) : AExit → St → Option Ans := (kBlk 0 (kSeq R k w [] A_ref01_Join_s4 (kFin R [(.tmp 6, .fz)] [])))
def L_ref01_Join_2_0 (R : Orc) (k : Nat) (w : Bool) (n : Nat) (a : List FV) (b c d : Int) := loopL R k w [] [0, 1, 2, 7, 8] [7] A_ref01_Join_b2 n ⟨[(0, .fz (.sl a)), (1, .fz (.int .i64 b)), (2, .fz (.int .i64 c)), (7, .nils), (8, .fz (.int .i64 d))], [(4095, .dead)]⟩
def J_ref01_Join_2_0 (R : Orc) (k : Nat) (w : Bool) (n : Nat) (a : List FV) (b c d : Int) (e : Bool) := execL R k w [] A_ref01_Join_j2 (AExit × St) ⟨[(0, .fz (.sl a)), (1, .fz (.int .i64 b)), (2, .fz (.int .i64 c)), (7, .nils), (8, .fz (.int .i64 d)), (9, .fz (.bool e))], [(4095, .dead)]⟩ (kBlk 1 (kSeq R k w [] A_ref01_Join_s3 (kLoop R k w [] [0, 1, 2, 7, 8] [7] A_ref01_Join_b2 n)))
def X_ref01_Join_2_0 : St := ⟨[(7, .nils)], [(4095, .dead)]⟩
def K_ref01_Join_1 (R : Orc) (k : Nat) (w : Bool) (n : Nat) : AExit → St → Option (AExit × St) := (kBlk 2 (kSeq R k w [] A_ref01_Join_s1 (kBlk 1 (kSeq R k w [] A_ref01_Join_s3 (kLoop R k w [] [0, 1, 2, 7, 8] [7] A_ref01_Join_b2 n)))))
def L_ref01_Join_1_0 (R : Orc) (k : Nat) (w : Bool) (n : Nat) (a : List FV) (b c d : Int) (e : Bool) (f : Int) := loopL R k w [] [0, 1, 2, 7, 8, 9, 10] [0, 1, 2, 7, 8, 9] A_ref01_Join_b1 n ⟨[(0, .fz (.sl a)), (1, .fz (.int .i64 b)), (2, .fz (.int .i64 c)), (7, .nils), (8, .fz (.int .i64 d)), (9, .fz (.bool e)), (10, .fz (.int .i64 f))], [(4095, .dead)]⟩
def X_ref01_Join_1_0 (a : List FV) (b c d : Int) (e : Bool) : St := ⟨[(0, .fz (.sl a)), (1, .fz (.int .i64 b)), (2, .fz (.int .i64 c)), (7, .nils), (8, .fz (.int .i64 d)), (9, .fz (.bool e))], [(4095, .dead)]⟩
def L_ref01_Join_2_1 (R : Orc) (k : Nat) (w : Bool) (n : Nat) (a : List FV) (b c d : Int) (e : List FV) := loopL R k w [] [0, 1, 2, 7, 8] [7] A_ref01_Join_b2 n ⟨[(0, .fz (.sl a)), (1, .fz (.int .i64 b)), (2, .fz (.int .i64 c)), (7, .rw 4096), (8, .fz (.int .i64 d))], [(4095, .dead), (4096, .row 1 false e)]⟩
def J_ref01_Join_2_1 (R : Orc) (k : Nat) (w : Bool) (n : Nat) (a : List FV) (b c d : Int) (e : Bool) (f : List FV) := execL R k w [] A_ref01_Join_j2 (AExit × St) ⟨[(0, .fz (.sl a)), (1, .fz (.int .i64 b)), (2, .fz (.int .i64 c)), (7, .rw 4096), (8, .fz (.int .i64 d)), (9, .fz (.bool e))], [(4095, .dead), (4096, .row 1 false f)]⟩ (kBlk 1 (kSeq R k w [] A_ref01_Join_s3 (kLoop R k w [] [0, 1, 2, 7, 8] [7] A_ref01_Join_b2 n)))
def X_ref01_Join_2_1 (a : List FV) : St := ⟨[(7, .rw 4096)], [(4095, .dead), (4096, .row 1 false a)]⟩
def L_ref01_Join_1_1 (R : Orc) (k : Nat) (w : Bool) (n : Nat) (a : List FV) (b c d : Int) (e : Bool) (f : Int) (g : List FV) := loopL R k w [] [0, 1, 2, 7, 8, 9, 10] [0, 1, 2, 7, 8, 9] A_ref01_Join_b1 n ⟨[(0, .fz (.sl a)), (1, .fz (.int .i64 b)), (2, .fz (.int .i64 c)), (7, .rw 4096), (8, .fz (.int .i64 d)), (9, .fz (.bool e)), (10, .fz (.int .i64 f))], [(4095, .dead), (4096, .row 1 false g)]⟩
def X_ref01_Join_1_1 (a : List FV) (b c d : Int) (e : Bool) (f : List FV) : St := ⟨[(0, .fz (.sl a)), (1, .fz (.int .i64 b)), (2, .fz (.int .i64 c)), (7, .rw 4096), (8, .fz (.int .i64 d)), (9, .fz (.bool e))], [(4095, .dead), (4096, .row 1 false f)]⟩
theorem E_ref01_Join (R : Orc) (k : Nat) (w : Bool) (a : List FV) (b c : Int) : callL R k w A_ref01_Join [.fz (.sl a), .fz (.int .i64 b), .fz (.int .i64 c)] = onL (L_ref01_Join_2_0 R k w k a b c 0) (K_ref01_Join_2 R k w) := by kernel_rfl
theorem L_ref01_Join_2_0_eq (R : Orc) (k : Nat) (w : Bool) (n : Nat) (a : List FV) (b c d : Int) : L_ref01_Join_2_0 R k w (n + 1) a b c d = ifB (decide (d < (List.length a : Int)))
 (when ((decide (0 ≤ b)) && (decide (b < (List.length a : Int)))) (when (fits 1 false (List.getD a (Int.toNat b) nilp)) (when (isSl (List.getD a (Int.toNat b) nilp)) (when ((decide (0 ≤ d)) && (decide (d < (List.length (toSl (List.getD a (Int.toNat b) nilp)) : Int)))) (when (fits 1 false (List.getD (toSl (List.getD a (Int.toNat b) nilp)) (Int.toNat d) nilp)) (when (isBool (List.getD (toSl (List.getD a (Int.toNat b) nilp)) (Int.toNat d) nilp)) (ifB (toBool (List.getD (toSl (List.getD a (Int.toNat b) nilp)) (Int.toNat d) nilp))
 (when ((decide (0 ≤ c)) && (decide (c < (List.length a : Int)))) (when (fits 1 false (List.getD a (Int.toNat c) nilp)) (when (isSl (List.getD a (Int.toNat c) nilp)) (when ((decide (0 ≤ d)) && (decide (d < (List.length (toSl (List.getD a (Int.toNat c) nilp)) : Int)))) (when (fits 1 false (List.getD (toSl (List.getD a (Int.toNat c) nilp)) (Int.toNat d) nilp)) (when (isBool (List.getD (toSl (List.getD a (Int.toNat c) nilp)) (Int.toNat d) nilp)) (jump w (J_ref01_Join_2_0 R k w n a b c d (toBool (List.getD (toSl (List.getD a (Int.toNat c) nilp)) (Int.toNat d) nilp))))))))))
 (jump w (J_ref01_Join_2_0 R k w n a b c d false)))))))))
 (some ((.exit 0), X_ref01_Join_2_0)) := by kernel_rfl
theorem J_ref01_Join_2_0_eq (R : Orc) (k : Nat) (w : Bool) (n : Nat) (a : List FV) (b c d : Int) (e : Bool) : J_ref01_Join_2_0 R k w n a b c d e = onL (L_ref01_Join_1_0 R k w k a b c d e 0) (K_ref01_Join_1 R k w n) := by kernel_rfl
theorem X_ref01_Join_2_0_eq (R : Orc) (k : Nat) (w : Bool) : K_ref01_Join_2 R k w (.exit 0) (X_ref01_Join_2_0) = some ([.fz (.sl [])], []) := by kernel_rfl
theorem L_ref01_Join_1_0_eq (R : Orc) (k : Nat) (w : Bool) (n : Nat) (a : List FV) (b c d : Int) (e : Bool) (f : Int) : L_ref01_Join_1_0 R k w (n + 1) a b c d e f = ifB (decide (f < (List.length a : Int)))
 (when ((decide (0 ≤ b)) && (decide (b < (List.length a : Int)))) (when (fits 1 false (List.getD a (Int.toNat b) nilp)) (when (isSl (List.getD a (Int.toNat b) nilp)) (when ((decide (0 ≤ f)) && (decide (f < (List.length (toSl (List.getD a (Int.toNat b) nilp)) : Int)))) (when (fits 1 false (List.getD (toSl (List.getD a (Int.toNat b) nilp)) (Int.toNat f) nilp)) (when (isBool (List.getD (toSl (List.getD a (Int.toNat b) nilp)) (Int.toNat f) nilp)) (ifB (toBool (List.getD (toSl (List.getD a (Int.toNat b) nilp)) (Int.toNat f) nilp))
 (when ((decide (0 ≤ c)) && (decide (c < (List.length a : Int)))) (when (fits 1 false (List.getD a (Int.toNat c) nilp)) (when (isSl (List.getD a (Int.toNat c) nilp)) (when ((decide (0 ≤ f)) && (decide (f < (List.length (toSl (List.getD a (Int.toNat c) nilp)) : Int)))) (when (fits 1 false (List.getD (toSl (List.getD a (Int.toNat c) nilp)) (Int.toNat f) nilp)) (when (isBool (List.getD (toSl (List.getD a (Int.toNat c) nilp)) (Int.toNat f) nilp)) (ifB (toBool (List.getD (toSl (List.getD a (Int.toNat c) nilp)) (Int.toNat f) nilp))
 (when ((decide (0 ≤ d)) && (decide (d < (List.length a : Int)))) (when (fits 1 false (List.getD a (Int.toNat d) nilp)) (when (isSl (List.getD a (Int.toNat d) nilp)) (when ((decide (0 ≤ f)) && (decide (f < (List.length (toSl (List.getD a (Int.toNat d) nilp)) : Int)))) (when (fits 1 false (List.getD (toSl (List.getD a (Int.toNat d) nilp)) (Int.toNat f) nilp)) (when (isBool (List.getD (toSl (List.getD a (Int.toNat d) nilp)) (Int.toNat f) nilp)) (ifB (!(toBool (List.getD (toSl (List.getD a (Int.toNat d) nilp)) (Int.toNat f) nilp)))
 (L_ref01_Join_1_0 R k w n a b c d false (IntKind.wrap .i64 (f + 1)))
 (L_ref01_Join_1_0 R k w n a b c d e (IntKind.wrap .i64 (f + 1))))))))))
 (L_ref01_Join_1_0 R k w n a b c d e (IntKind.wrap .i64 (f + 1))))))))))
 (L_ref01_Join_1_0 R k w n a b c d e (IntKind.wrap .i64 (f + 1))))))))))
 (some ((.exit 2), X_ref01_Join_1_0 a b c d e)) := by kernel_rfl
theorem X_ref01_Join_1_0_eq (R : Orc) (k : Nat) (w : Bool) (n : Nat) (a : List FV) (b c d : Int) (e : Bool) : K_ref01_Join_1 R k w n (.exit 2) (X_ref01_Join_1_0 a b c d e) = ifB e
 (when (decide (((0 : Nat) + List.length [FV.int .i64 d]) * 8 ≤ roomy) && decide ((0 : Nat) + List.length [FV.int .i64 d] ≤ roomy)) (L_ref01_Join_2_1 R k w n a b c (IntKind.wrap .i64 (d + 1)) [.int .i64 d]))
 (L_ref01_Join_2_0 R k w n a b c (IntKind.wrap .i64 (d + 1))) := by kernel_rfl
theorem L_ref01_Join_2_1_eq (R : Orc) (k : Nat) (w : Bool) (n : Nat) (a : List FV) (b c d : Int) (e : List FV) : L_ref01_Join_2_1 R k w (n + 1) a b c d e = ifB (decide (d < (List.length a : Int)))
 (when ((decide (0 ≤ b)) && (decide (b < (List.length a : Int)))) (when (fits 1 false (List.getD a (Int.toNat b) nilp)) (when (isSl (List.getD a (Int.toNat b) nilp)) (when ((decide (0 ≤ d)) && (decide (d < (List.length (toSl (List.getD a (Int.toNat b) nilp)) : Int)))) (when (fits 1 false (List.getD (toSl (List.getD a (Int.toNat b) nilp)) (Int.toNat d) nilp)) (when (isBool (List.getD (toSl (List.getD a (Int.toNat b) nilp)) (Int.toNat d) nilp)) (ifB (toBool (List.getD (toSl (List.getD a (Int.toNat b) nilp)) (Int.toNat d) nilp))
 (when ((decide (0 ≤ c)) && (decide (c < (List.length a : Int)))) (when (fits 1 false (List.getD a (Int.toNat c) nilp)) (when (isSl (List.getD a (Int.toNat c) nilp)) (when ((decide (0 ≤ d)) && (decide (d < (List.length (toSl (List.getD a (Int.toNat c) nilp)) : Int)))) (when (fits 1 false (List.getD (toSl (List.getD a (Int.toNat c) nilp)) (Int.toNat d) nilp)) (when (isBool (List.getD (toSl (List.getD a (Int.toNat c) nilp)) (Int.toNat d) nilp)) (jump w (J_ref01_Join_2_1 R k w n a b c d (toBool (List.getD (toSl (List.getD a (Int.toNat c) nilp)) (Int.toNat d) nilp)) e))))))))
 (jump w (J_ref01_Join_2_1 R k w n a b c d false e)))))))))
 (some ((.exit 0), X_ref01_Join_2_1 e)) := by kernel_rfl
theorem J_ref01_Join_2_1_eq (R : Orc) (k : Nat) (w : Bool) (n : Nat) (a : List FV) (b c d : Int) (e : Bool) (f : List FV) : J_ref01_Join_2_1 R k w n a b c d e f = onL (L_ref01_Join_1_1 R k w k a b c d e 0 f) (K_ref01_Join_1 R k w n) := by kernel_rfl
theorem X_ref01_Join_2_1_eq (R : Orc) (k : Nat) (w : Bool) (a : List FV) : K_ref01_Join_2 R k w (.exit 0) (X_ref01_Join_2_1 a) = some ([.fz (.sl a)], []) := by kernel_rfl
theorem L_ref01_Join_1_1_eq (R : Orc) (k : Nat) (w : Bool) (n : Nat) (a : List FV) (b c d : Int) (e : Bool) (f : Int) (g : List FV) : L_ref01_Join_1_1 R k w (n + 1) a b c d e f g = ifB (decide (f < (List.length a : Int)))
 (when ((decide (0 ≤ b)) && (decide (b < (List.length a : Int)))) (when (fits 1 false (List.getD a (Int.toNat b) nilp)) (when (isSl (List.getD a (Int.toNat b) nilp)) (when ((decide (0 ≤ f)) && (decide (f < (List.length (toSl (List.getD a (Int.toNat b) nilp)) : Int)))) (when (fits 1 false (List.getD (toSl (List.getD a (Int.toNat b) nilp)) (Int.toNat f) nilp)) (when (isBool (List.getD (toSl (List.getD a (Int.toNat b) nilp)) (Int.toNat f) nilp)) (ifB (toBool (List.getD (toSl (List.getD a (Int.toNat b) nilp)) (Int.toNat f) nilp))
 (when ((decide (0 ≤ c)) && (decide (c < (List.length a : Int)))) (when (fits 1 false (List.getD a (Int.toNat c) nilp)) (when (isSl (List.getD a (Int.toNat c) nilp)) (when ((decide (0 ≤ f)) && (decide (f < (List.length (toSl (List.getD a (Int.toNat c) nilp)) : Int)))) (when (fits 1 false (List.getD (toSl (List.getD a (Int.toNat c) nilp)) (Int.toNat f) nilp)) (when (isBool (List.getD (toSl (List.getD a (Int.toNat c) nilp)) (Int.toNat f) nilp)) (ifB (toBool (List.getD (toSl (List.getD a (Int.toNat c) nilp)) (Int.toNat f) nilp))
 (when ((decide (0 ≤ d)) && (decide (d < (List.length a : Int)))) (when (fits 1 false (List.getD a (Int.toNat d) nilp)) (when (isSl (List.getD a (Int.toNat d) nilp)) (when ((decide (0 ≤ f)) && (decide (f < (List.length (toSl (List.getD a (Int.toNat d) nilp)) : Int)))) (when (fits 1 false (List.getD (toSl (List.getD a (Int.toNat d) nilp)) (Int.toNat f) nilp)) (when (isBool (List.getD (toSl (List.getD a (Int.toNat d) nilp)) (Int.toNat f) nilp)) (ifB (!(toBool (List.getD (toSl (List.getD a (Int.toNat d) nilp)) (Int.toNat f) nilp)))
 (L_ref01_Join_1_1 R k w n a b c d false (IntKind.wrap .i64 (f + 1)) g)
 (L_ref01_Join_1_1 R k w n a b c d e (IntKind.wrap .i64 (f + 1)) g))))))))
 (L_ref01_Join_1_1 R k w n a b c d e (IntKind.wrap .i64 (f + 1)) g))))))))
 (L_ref01_Join_1_1 R k w n a b c d e (IntKind.wrap .i64 (f + 1)) g))))))))
 (some ((.exit 2), X_ref01_Join_1_1 a b c d e g)) := by kernel_rfl
theorem X_ref01_Join_1_1_eq (R : Orc) (k : Nat) (w : Bool) (n : Nat) (a : List FV) (b c d : Int) (e : Bool) (f : List FV) : K_ref01_Join_1 R k w n (.exit 2) (X_ref01_Join_1_1 a b c d e f) = ifB e
 (when (decide ((List.length f + List.length [FV.int .i64 d]) * 8 ≤ roomy) && decide (List.length f + List.length [FV.int .i64 d] ≤ roomy)) (L_ref01_Join_2_1 R k w n a b c (IntKind.wrap .i64 (d + 1)) (f ++ [FV.int .i64 d])))
 (L_ref01_Join_2_1 R k w n a b c (IntKind.wrap .i64 (d + 1)) f) := by kernel_rfl
/-! slices.BinarySearch[[]string,string] -/
def C_slices_BinarySearch___string_string_ : ACode := codeOf 62 Try.f62
def A_slices_BinarySearch___string_string__b1 : ACode := C_slices_BinarySearch___string_string_.at [1, 1, 1, 0, 0, 0]
def A_slices_BinarySearch___string_string__s1 : ACode := C_slices_BinarySearch___string_string_.at [1, 1, 1, 1]
def A_slices_BinarySearch___string_string_ : AFunc := ⟨2, [(.tmp 4, .fz), (.tmp 5, .fz)], C_slices_BinarySearch___string_string_, none⟩
def K_slices_BinarySearch___string_string__1 (R : Orc) (k : Nat) (w : Bool) : AExit → St → Option Ans := (kBlk 0 (kSeq R k w [] A_slices_BinarySearch___string_string__s1 (kFin R [(.tmp 4, .fz), (.tmp 5, .fz)] [])))
def L_slices_BinarySearch___string_string__1_0 (R : Orc) (k : Nat) (w : Bool) (n : Nat) (a : List FV) (b : ByteArray) (c d e : Int) := loopL R k w [] [0, 1, 6, 7, 8] [0, 1, 6, 7] A_slices_BinarySearch___string_string__b1 n ⟨[(0, .fz (.sl a)), (1, .fz (.str b)), (6, .fz (.int .i64 c)), (7, .fz (.int .i64 d)), (8, .fz (.int .i64 e))], [(4095, .dead)]⟩
def X_slices_BinarySearch___string_string__1_0 (a : List FV) (b : ByteArray) (c d : Int) : St := ⟨[(0, .fz (.sl a)), (1, .fz (.str b)), (6, .fz (.int .i64 c)), (7, .fz (.int .i64 d))], [(4095, .dead)]⟩
theorem E_slices_BinarySearch___string_string_ (R : Orc) (k : Nat) (w : Bool) (a : List FV) (b : ByteArray) : callL R k w A_slices_BinarySearch___string_string_ [.fz (.sl a), .fz (.str b)] = onL (L_slices_BinarySearch___string_string__1_0 R k w k a b (List.length a : Int) 0 (List.length a : Int)) (K_slices_BinarySearch___string_string__1 R k w) := by kernel_rfl
theorem L_slices_BinarySearch___string_string__1_0_eq (R : Orc) (k : Nat) (w : Bool) (n : Nat) (a : List FV) (b : ByteArray) (c d e : Int) : L_slices_BinarySearch___string_string__1_0 R k w (n + 1) a b c d e = ifB (decide (d < e))
 (when ((decide (0 ≤ (IntKind.wrap .i64 (Int.fdiv (IntKind.wrap .u64 (IntKind.wrap .i64 (d + e))) (2 ^ (min 1 (IntKind.bits .u64))))))) && (decide ((IntKind.wrap .i64 (Int.fdiv (IntKind.wrap .u64 (IntKind.wrap .i64 (d + e))) (2 ^ (min 1 (IntKind.bits .u64))))) < (List.length a : Int)))) (when (fits 1 false (List.getD a (Int.toNat (IntKind.wrap .i64 (Int.fdiv (IntKind.wrap .u64 (IntKind.wrap .i64 (d + e))) (2 ^ (min 1 (IntKind.bits .u64)))))) nilp)) (when (isStr (List.getD a (Int.toNat (IntKind.wrap .i64 (Int.fdiv (IntKind.wrap .u64 (IntKind.wrap .i64 (d + e))) (2 ^ (min 1 (IntKind.bits .u64)))))) nilp)) (onR (R N_cmp_Less_string_ [.fz (.str (toStr (List.getD a (Int.toNat (IntKind.wrap .i64 (Int.fdiv (IntKind.wrap .u64 (IntKind.wrap .i64 (d + e))) (2 ^ (min 1 (IntKind.bits .u64)))))) nilp))), .fz (.str b)]) fun r0 => when (List.isEmpty r0.2 && allF [.fz] r0.1) (when (isBool (toF (List.getD r0.1 0 em))) (ifB (toBool (toF (List.getD r0.1 0 em)))
 (L_slices_BinarySearch___string_string__1_0 R k w n a b c (IntKind.wrap .i64 ((IntKind.wrap .i64 (Int.fdiv (IntKind.wrap .u64 (IntKind.wrap .i64 (d + e))) (2 ^ (min 1 (IntKind.bits .u64))))) + 1)) e)
 (L_slices_BinarySearch___string_string__1_0 R k w n a b c d (IntKind.wrap .i64 (Int.fdiv (IntKind.wrap .u64 (IntKind.wrap .i64 (d + e))) (2 ^ (min 1 (IntKind.bits .u64))))))))))))
 (some ((.exit 0), X_slices_BinarySearch___string_string__1_0 a b c d)) := by kernel_rfl
theorem X_slices_BinarySearch___string_string__1_0_eq (R : Orc) (k : Nat) (w : Bool) (a : List FV) (b : ByteArray) (c d : Int) : K_slices_BinarySearch___string_string__1 R k w (.exit 0) (X_slices_BinarySearch___string_string__1_0 a b c d) = ifB (decide (d < c))
 (when ((decide (0 ≤ d)) && (decide (d < (List.length a : Int)))) (when (fits 1 false (List.getD a (Int.toNat d) nilp)) (when (isStr (List.getD a (Int.toNat d) nilp)) (ifB (ByteArray.toList (toStr (List.getD a (Int.toNat d) nilp)) == ByteArray.toList b)
 (some ([.fz (.int .i64 d), .fz (.bool true)], []))
 (when ((decide (0 ≤ d)) && (decide (d < (List.length a : Int)))) (when (fits 1 false (List.getD a (Int.toNat d) nilp)) (when (isStr (List.getD a (Int.toNat d) nilp)) (onR (R N_slices_isNaN_string_ [.fz (.str (toStr (List.getD a (Int.toNat d) nilp)))]) fun r1 => when (List.isEmpty r1.2 && allF [.fz] r1.1) (when (isBool (toF (List.getD r1.1 0 em))) (ifB (toBool (toF (List.getD r1.1 0 em)))
 (onR (R N_slices_isNaN_string_ [.fz (.str b)]) fun r2 => when (List.isEmpty r2.2 && allF [.fz] r2.1) (when (isBool (toF (List.getD r2.1 0 em))) (some ([.fz (.int .i64 d), .fz (.bool (toBool (toF (List.getD r2.1 0 em))))], []))))
 (some ([.fz (.int .i64 d), .fz (.bool false)], []))))))))))))
 (some ([.fz (.int .i64 d), .fz (.bool false)], [])) := by kernel_rfl
/-! (*keyhole/level.Lattice).Is -/
def C_level_Lattice_Is : ACode := codeOf 64 Try.f64
def A_level_Lattice_Is : AFunc := ⟨2, [(.tmp 4, .fz)], C_level_Lattice_Is, none⟩
theorem E_level_Lattice_Is (R : Orc) (k : Nat) (w : Bool) (a : FV) (b : Int) : callL R k w A_level_Lattice_Is [.fz (.pt 195 true a 0), .fz (.int .i64 b)] = ifB (decide (b ≥ 0))
 (onR (R N_level_Lattice_Size [.fz (.pt 195 true a 0)]) fun r0 => when (List.isEmpty r0.2 && allF [.fz] r0.1) (when (isInt .i64 (toF (List.getD r0.1 0 em))) (some ([.fz (.bool (decide (b < (toInt (toF (List.getD r0.1 0 em))))))], []))))
 (some ([.fz (.bool false)], [])) := by kernel_rfl
theorem E_level_Lattice_Is_v1 (R : Orc) (k : Nat) (w : Bool) (a : Int) : callL R k w A_level_Lattice_Is [.fz nilp, .fz (.int .i64 a)] = ifB (decide (a ≥ 0))
 (onR (R N_level_Lattice_Size [.fz nilp]) fun r1 => when (List.isEmpty r1.2 && allF [.fz] r1.1) (when (isInt .i64 (toF (List.getD r1.1 0 em))) (some ([.fz (.bool (decide (a < (toInt (toF (List.getD r1.1 0 em))))))], []))))
 (some ([.fz (.bool false)], [])) := by kernel_rfl
/-! keyhole/level.named -/
def C_level_named : ACode := codeOf 65 Try.f65
def A_level_named_b1 : ACode := C_level_named.at [1, 1, 0, 0, 1, 0, 0, 1, 1, 0, 0, 1, 1, 1, 0, 0]
def A_level_named_s1 : ACode := C_level_named.at [1, 1, 0, 0, 1, 0, 0, 1, 1, 1]
def A_level_named_b2 : ACode := C_level_named.at [1, 1, 0, 0, 1, 0, 0]
def A_level_named_s2 : ACode := C_level_named.at [1, 1, 0, 1]
def A_level_named_j3 : ACode := C_level_named.at [1, 1, 0]
def A_level_named : AFunc := ⟨1, [(.tmp 2, .fz)], C_level_named, none⟩
def J_level_named_3_0 (R : Orc) (k : Nat) (w : Bool) (a : List FV) := execL R k w [] A_level_named_j3 Ans ⟨[(0, .fz (.sl a))], [(4095, .dead)]⟩ (kFin R [(.tmp 2, .fz)] [])
def K_level_named_2 (R : Orc) (k : Nat) (w : Bool) : AExit → St → Option Ans := (kBlk 0 (kSeq R k w [] A_level_named_s2 (kFin R [(.tmp 2, .fz)] [])))
def L_level_named_2_0 (R : Orc) (k : Nat) (w : Bool) (n : Nat) (a b : List FV) (c d : Int) := loopL R k w [] [0, 15, 16, 17] [2] A_level_named_b2 n ⟨[(0, .fz (.sl a)), (15, .fz (.sl b)), (16, .fz (.int .i64 c)), (17, .fz (.int .i64 d))], [(4095, .dead)]⟩
def X_level_named_2_0 (a : Bool) : St := ⟨[(2, .fz (.bool a))], [(4095, .dead)]⟩
def K_level_named_1 (R : Orc) (k : Nat) (w : Bool) (n : Nat) : AExit → St → Option (AExit × St) := (kBlk 2 (kBlk 1 (kSeq R k w [] A_level_named_s1 (kLoop R k w [] [0, 15, 16, 17] [2] A_level_named_b2 n))))
def L_level_named_1_0 (R : Orc) (k : Nat) (w : Bool) (n : Nat) (a : List FV) (b : ByteArray) (c : List FV) (d e : Int) (f : List FV) (g h : Int) := loopL R k w [] [0, 4, 15, 16, 17, 27, 28, 29] [0, 2, 15, 16, 17] A_level_named_b1 n ⟨[(0, .fz (.sl a)), (4, .fz (.str b)), (15, .fz (.sl c)), (16, .fz (.int .i64 d)), (17, .fz (.int .i64 e)), (27, .fz (.sl f)), (28, .fz (.int .i64 g)), (29, .fz (.int .i64 h))], [(4095, .dead)]⟩
def X_level_named_2_1 : St := ⟨[], [(4095, .dead)]⟩
def X_level_named_1_0 (a : List FV) (b : Bool) (c : List FV) (d e : Int) : St := ⟨[(0, .fz (.sl a)), (2, .fz (.bool b)), (15, .fz (.sl c)), (16, .fz (.int .i64 d)), (17, .fz (.int .i64 e))], [(4095, .dead)]⟩
def X_level_named_1_1 (a b : List FV) (c d : Int) : St := ⟨[(0, .fz (.sl a)), (15, .fz (.sl b)), (16, .fz (.int .i64 c)), (17, .fz (.int .i64 d))], [(4095, .dead)]⟩
theorem E_level_named (R : Orc) (k : Nat) (w : Bool) (a : List FV) : callL R k w A_level_named [.fz (.sl a)] = ifB (decide ((List.length a : Int) < 1))
 (some ([.fz (.bool false)], []))
 (ifB (decide ((List.length a : Int) > 8))
 (some ([.fz (.bool false)], []))
 (jump w (J_level_named_3_0 R k w a))) := by kernel_rfl
theorem J_level_named_3_0_eq (R : Orc) (k : Nat) (w : Bool) (a : List FV) : J_level_named_3_0 R k w a = onL (L_level_named_2_0 R k w k a a (List.length a : Int) 0) (K_level_named_2 R k w) := by kernel_rfl
theorem L_level_named_2_0_eq (R : Orc) (k : Nat) (w : Bool) (n : Nat) (a b : List FV) (c d : Int) : L_level_named_2_0 R k w (n + 1) a b c d = ifB (decide (d < c))
 (when ((decide (0 ≤ d)) && (decide (d < (List.length b : Int)))) (when (fits 1 false (List.getD b (Int.toNat d) nilp)) (when (isStr (List.getD b (Int.toNat d) nilp)) (onR (R N_level_Name [.fz (.str (toStr (List.getD b (Int.toNat d) nilp)))]) fun r0 => when (List.isEmpty r0.2 && allF [.fz] r0.1) (when (isBool (toF (List.getD r0.1 0 em))) (ifB (!(toBool (toF (List.getD r0.1 0 em))))
 (some (.ret, X_level_named_2_0 false))
 (when (List.all a (fits 1 false)) (when (decide (0 ≤ d) && decide (d ≤ (List.length a : Int))) (when (decide (0 ≤ 0) && decide (0 ≤ d)) (onL (L_level_named_1_0 R k w k a (toStr (List.getD b (Int.toNat d) nilp)) b c d (List.drop 0 (List.take (Int.toNat d) a)) (List.length (List.drop 0 (List.take (Int.toNat d) a)) : Int) 0) (K_level_named_1 R k w n)))))))))))
 (some ((.exit 0), X_level_named_2_1)) := by kernel_rfl
theorem X_level_named_2_0_eq (R : Orc) (k : Nat) (w a : Bool) : K_level_named_2 R k w .ret (X_level_named_2_0 a) = some ([.fz (.bool a)], []) := by kernel_rfl
theorem L_level_named_1_0_eq (R : Orc) (k : Nat) (w : Bool) (n : Nat) (a : List FV) (b : ByteArray) (c : List FV) (d e : Int) (f : List FV) (g h : Int) : L_level_named_1_0 R k w (n + 1) a b c d e f g h = ifB (decide (h < g))
 (when ((decide (0 ≤ h)) && (decide (h < (List.length f : Int)))) (when (fits 1 false (List.getD f (Int.toNat h) nilp)) (when (isStr (List.getD f (Int.toNat h) nilp)) (ifB (ByteArray.toList b == ByteArray.toList (toStr (List.getD f (Int.toNat h) nilp)))
 (some (.ret, X_level_named_1_0 a false c d e))
 (L_level_named_1_0 R k w n a b c d e f g (IntKind.wrap .i64 (h + 1)))))))
 (some ((.exit 2), X_level_named_1_1 a c d e)) := by kernel_rfl
theorem X_level_named_2_1_eq (R : Orc) (k : Nat) (w : Bool) : K_level_named_2 R k w (.exit 0) (X_level_named_2_1) = some ([.fz (.bool true)], []) := by kernel_rfl
theorem X_level_named_1_0_eq (R : Orc) (k : Nat) (w : Bool) (n : Nat) (a : List FV) (b : Bool) (c : List FV) (d e : Int) : K_level_named_1 R k w n .ret (X_level_named_1_0 a b c d e) = some (.ret, X_level_named_2_0 b) := by kernel_rfl
theorem X_level_named_1_1_eq (R : Orc) (k : Nat) (w : Bool) (n : Nat) (a b : List FV) (c d : Int) : K_level_named_1 R k w n (.exit 2) (X_level_named_1_1 a b c d) = L_level_named_2_0 R k w n a b c (IntKind.wrap .i64 (d + 1)) := by kernel_rfl
end
end Go.Ab
