-- Written by a program of the session, out of the translation. Lean checks it.
import Derived.Test.YtjmpjkalmhoomaaA0
namespace Go.Ab
open Go.Proofs FV TV
set_option linter.unusedVariables false
set_option maxRecDepth 100000
noncomputable section
/-! keyhole/keyholelaw03.UtfReads -/
def C_law03_UtfReads : ACode := codeOf 5 Try.f5
def A_law03_UtfReads : AFunc := ⟨1, [(.tmp 2, .fz)], C_law03_UtfReads, none⟩
theorem E_law03_UtfReads (R : Orc) (k : Nat) (w : Bool) (a : ByteArray) : callL R k w A_law03_UtfReads [.fz (.str a)] = ifB (decide ((ByteArray.size a : Int) > 2000))
 (onR (R N_law03_lives []) fun r0 => when (List.isEmpty r0.2 && allF [.fz] r0.1) (when (isBool (toF (List.getD r0.1 0 em))) (some ([.fz (.bool (toBool (toF (List.getD r0.1 0 em))))], []))))
 (onR (R N_utf_Unquote [.fz (.str a)]) fun r1 => when (List.isEmpty r1.2 && allF [.fz, .fz] r1.1) (when (isStr (toF (List.getD r1.1 0 em))) (when (isInt .i64 (toF (List.getD r1.1 1 em))) (onR (R N_ref03_Unquote [.fz (.str a)]) fun r2 => when (List.isEmpty r2.2 && allF [.fz, .fz] r2.1) (when (isStr (toF (List.getD r2.1 0 em))) (when (isInt .i64 (toF (List.getD r2.1 1 em))) (ifB (ByteArray.toList (toStr (toF (List.getD r1.1 0 em))) == ByteArray.toList (toStr (toF (List.getD r2.1 0 em))))
 (ifB ((toInt (toF (List.getD r1.1 1 em))) == (toInt (toF (List.getD r2.1 1 em))))
 (onR (R N_law03_lives []) fun r3 => when (List.isEmpty r3.2 && allF [.fz] r3.1) (when (isBool (toF (List.getD r3.1 0 em))) (some ([.fz (.bool (toBool (toF (List.getD r3.1 0 em))))], []))))
 (some ([.fz (.bool false)], [])))
 (some ([.fz (.bool false)], []))))))))) := by kernel_rfl
/-! keyhole/keyholelaw03.UtfEscapes -/
def C_law03_UtfEscapes : ACode := codeOf 6 Try.f6
def A_law03_UtfEscapes_j1 : ACode := C_law03_UtfEscapes.at [1, 1, 1, 1, 0, 1, 0, 0, 1, 0, 0, 1, 0, 0, 1, 0]
def A_law03_UtfEscapes_j2 : ACode := C_law03_UtfEscapes.at [1, 1, 1, 1, 0, 1, 0, 0, 1, 0, 0, 1, 1, 0]
def A_law03_UtfEscapes_s3 : ACode := C_law03_UtfEscapes.at [1, 1, 1, 1, 0, 1, 0, 0, 1, 0, 0, 1, 1]
def A_law03_UtfEscapes_s4 : ACode := C_law03_UtfEscapes.at [1, 1, 1, 1, 0, 1, 0, 0, 1, 1]
def A_law03_UtfEscapes_b1 : ACode := C_law03_UtfEscapes.at [1, 1, 1, 1, 0, 1, 0, 0]
def A_law03_UtfEscapes_s5 : ACode := C_law03_UtfEscapes.at [1, 1, 1, 1, 1]
def A_law03_UtfEscapes : AFunc := ⟨1, [(.tmp 2, .fz)], C_law03_UtfEscapes, none⟩
def K_law03_UtfEscapes_1 (R : Orc) (k : Nat) (w : Bool) : AExit → St → Option Ans := (kBlk 0 (kSeq R k w [] A_law03_UtfEscapes_s5 (kFin R [(.tmp 2, .fz)] [])))
def L_law03_UtfEscapes_1_0 (R : Orc) (k : Nat) (w : Bool) (n : Nat) (a : List FV) (b : ByteArray) (c : Int) := loopL R k w [] [0, 3, 4, 5] [0, 2, 3, 4] A_law03_UtfEscapes_b1 n ⟨[(0, .fz (.sl a)), (3, .fz (.str b)), (4, .nils), (5, .fz (.int .i64 c))], [(4095, .dead)]⟩
def J_law03_UtfEscapes_1_0 (R : Orc) (k : Nat) (w : Bool) (n : Nat) (a : List FV) (b : ByteArray) (c d : Int) (e : Bool) := execL R k w [] A_law03_UtfEscapes_j1 (AExit × St) ⟨[(0, .fz (.sl a)), (3, .fz (.str b)), (4, .nils), (5, .fz (.int .i64 c)), (6, .fz (.int .i64 d)), (38, .fz (.bool e))], [(4095, .dead)]⟩ (kBlk 2 (kSeq R k w [] A_law03_UtfEscapes_s3 (kBlk 1 (kSeq R k w [] A_law03_UtfEscapes_s4 (kLoop R k w [] [0, 3, 4, 5] [0, 2, 3, 4] A_law03_UtfEscapes_b1 n)))))
def X_law03_UtfEscapes_1_0 (a : List FV) (b : ByteArray) : St := ⟨[(0, .fz (.sl a)), (3, .fz (.str b)), (4, .nils)], [(4095, .dead)]⟩
def X_law03_UtfEscapes_1_1 (a : List FV) (b : Bool) (c : ByteArray) : St := ⟨[(0, .fz (.sl a)), (2, .fz (.bool b)), (3, .fz (.str c)), (4, .nils)], [(4095, .dead)]⟩
def J_law03_UtfEscapes_2_0 (R : Orc) (k : Nat) (w : Bool) (n : Nat) (a : List FV) (b : ByteArray) (c d : Int) := execL R k w [] A_law03_UtfEscapes_j2 (AExit × St) ⟨[(0, .fz (.sl a)), (3, .fz (.str b)), (4, .nils), (5, .fz (.int .i64 c)), (6, .fz (.int .i64 d))], [(4095, .dead)]⟩ (kBlk 1 (kSeq R k w [] A_law03_UtfEscapes_s4 (kLoop R k w [] [0, 3, 4, 5] [0, 2, 3, 4] A_law03_UtfEscapes_b1 n)))
def L_law03_UtfEscapes_1_1 (R : Orc) (k : Nat) (w : Bool) (n : Nat) (a : List FV) (b : ByteArray) (c : Int) (d : List FV) := loopL R k w [] [0, 3, 4, 5] [0, 2, 3, 4] A_law03_UtfEscapes_b1 n ⟨[(0, .fz (.sl a)), (3, .fz (.str b)), (4, .rw 4096), (5, .fz (.int .i64 c))], [(4095, .dead), (4096, .row 1 false d)]⟩
def J_law03_UtfEscapes_1_1 (R : Orc) (k : Nat) (w : Bool) (n : Nat) (a : List FV) (b : ByteArray) (c d : Int) (e : Bool) (f : List FV) := execL R k w [] A_law03_UtfEscapes_j1 (AExit × St) ⟨[(0, .fz (.sl a)), (3, .fz (.str b)), (4, .rw 4096), (5, .fz (.int .i64 c)), (6, .fz (.int .i64 d)), (38, .fz (.bool e))], [(4095, .dead), (4096, .row 1 false f)]⟩ (kBlk 2 (kSeq R k w [] A_law03_UtfEscapes_s3 (kBlk 1 (kSeq R k w [] A_law03_UtfEscapes_s4 (kLoop R k w [] [0, 3, 4, 5] [0, 2, 3, 4] A_law03_UtfEscapes_b1 n)))))
def X_law03_UtfEscapes_1_2 (a : List FV) (b : ByteArray) (c : List FV) : St := ⟨[(0, .fz (.sl a)), (3, .fz (.str b)), (4, .rw 4096)], [(4095, .dead), (4096, .row 1 false c)]⟩
def X_law03_UtfEscapes_1_3 (a : List FV) (b : Bool) (c : ByteArray) (d : List FV) : St := ⟨[(0, .fz (.sl a)), (2, .fz (.bool b)), (3, .fz (.str c)), (4, .rw 4096)], [(4095, .dead), (4096, .row 1 false d)]⟩
def J_law03_UtfEscapes_2_1 (R : Orc) (k : Nat) (w : Bool) (n : Nat) (a : List FV) (b : ByteArray) (c d : Int) (e : List FV) := execL R k w [] A_law03_UtfEscapes_j2 (AExit × St) ⟨[(0, .fz (.sl a)), (3, .fz (.str b)), (4, .rw 4096), (5, .fz (.int .i64 c)), (6, .fz (.int .i64 d))], [(4095, .dead), (4096, .row 1 false e)]⟩ (kBlk 1 (kSeq R k w [] A_law03_UtfEscapes_s4 (kLoop R k w [] [0, 3, 4, 5] [0, 2, 3, 4] A_law03_UtfEscapes_b1 n)))
theorem E_law03_UtfEscapes (R : Orc) (k : Nat) (w : Bool) (a : List FV) : callL R k w A_law03_UtfEscapes [.fz (.sl a)] = ifB (decide ((List.length a : Int) > 200))
 (onR (R N_law03_lives []) fun r0 => when (List.isEmpty r0.2 && allF [.fz] r0.1) (when (isBool (toF (List.getD r0.1 0 em))) (some ([.fz (.bool (toBool (toF (List.getD r0.1 0 em))))], []))))
 (onL (L_law03_UtfEscapes_1_0 R k w k a (⟨#[34]⟩ : ByteArray) 0) (K_law03_UtfEscapes_1 R k w)) := by kernel_rfl
theorem L_law03_UtfEscapes_1_0_eq (R : Orc) (k : Nat) (w : Bool) (n : Nat) (a : List FV) (b : ByteArray) (c : Int) : L_law03_UtfEscapes_1_0 R k w (n + 1) a b c = ifB (decide (c < (List.length a : Int)))
 (when ((decide (0 ≤ c)) && (decide (c < (List.length a : Int)))) (when (fits 1 false (List.getD a (Int.toNat c) nilp)) (when (isInt .i64 (List.getD a (Int.toNat c) nilp)) (ifB (decide ((toInt (List.getD a (Int.toNat c) nilp)) < 0))
 (jump w (J_law03_UtfEscapes_1_0 R k w n a b c (toInt (List.getD a (Int.toNat c) nilp)) true))
 (ifB (decide ((toInt (List.getD a (Int.toNat c) nilp)) > 1114111))
 (jump w (J_law03_UtfEscapes_1_0 R k w n a b c (toInt (List.getD a (Int.toNat c) nilp)) true))
 (ifB (decide ((toInt (List.getD a (Int.toNat c) nilp)) ≥ 55296))
 (jump w (J_law03_UtfEscapes_1_0 R k w n a b c (toInt (List.getD a (Int.toNat c) nilp)) (decide ((toInt (List.getD a (Int.toNat c) nilp)) < 57344))))
 (jump w (J_law03_UtfEscapes_1_0 R k w n a b c (toInt (List.getD a (Int.toNat c) nilp)) false))))))))
 (some ((.exit 0), X_law03_UtfEscapes_1_0 a b)) := by kernel_rfl
theorem J_law03_UtfEscapes_1_0_eq (R : Orc) (k : Nat) (w : Bool) (n : Nat) (a : List FV) (b : ByteArray) (c d : Int) (e : Bool) : J_law03_UtfEscapes_1_0 R k w n a b c d e = ifB e
 (onR (R N_law03_lives []) fun r1 => when (List.isEmpty r1.2 && allF [.fz] r1.1) (when (isBool (toF (List.getD r1.1 0 em))) (some (.ret, X_law03_UtfEscapes_1_1 a (toBool (toF (List.getD r1.1 0 em))) b))))
 (ifB (decide (d < 65536))
 (when (decide (ByteArray.size b + ByteArray.size (⟨#[92, 117]⟩ : ByteArray) ≤ 2 ^ 62)) (onR (R N_law03_hex [.fz (.int .i64 d)]) fun r2 => when (List.isEmpty r2.2 && allF [.fz] r2.1) (when (isStr (toF (List.getD r2.1 0 em))) (when (decide (ByteArray.size (b ++ (⟨#[92, 117]⟩ : ByteArray)) + ByteArray.size (toStr (toF (List.getD r2.1 0 em))) ≤ 2 ^ 62)) (jump w (J_law03_UtfEscapes_2_0 R k w n a ((b ++ (⟨#[92, 117]⟩ : ByteArray)) ++ (toStr (toF (List.getD r2.1 0 em)))) c d))))))
 (when (decide (ByteArray.size b + ByteArray.size (⟨#[92, 117]⟩ : ByteArray) ≤ 2 ^ 62)) (onR (R N_law03_hex [.fz (.int .i64 (IntKind.wrap .i64 (55296 + (IntKind.wrap .i64 (Int.tdiv (IntKind.wrap .i64 (d - 65536)) 1024)))))]) fun r3 => when (List.isEmpty r3.2 && allF [.fz] r3.1) (when (isStr (toF (List.getD r3.1 0 em))) (when (decide (ByteArray.size (b ++ (⟨#[92, 117]⟩ : ByteArray)) + ByteArray.size (toStr (toF (List.getD r3.1 0 em))) ≤ 2 ^ 62)) (when (decide (ByteArray.size ((b ++ (⟨#[92, 117]⟩ : ByteArray)) ++ (toStr (toF (List.getD r3.1 0 em)))) + ByteArray.size (⟨#[92, 117]⟩ : ByteArray) ≤ 2 ^ 62)) (onR (R N_law03_hex [.fz (.int .i64 (IntKind.wrap .i64 (56320 + (Int.tmod (IntKind.wrap .i64 (d - 65536)) 1024))))]) fun r4 => when (List.isEmpty r4.2 && allF [.fz] r4.1) (when (isStr (toF (List.getD r4.1 0 em))) (when (decide (ByteArray.size (((b ++ (⟨#[92, 117]⟩ : ByteArray)) ++ (toStr (toF (List.getD r3.1 0 em)))) ++ (⟨#[92, 117]⟩ : ByteArray)) + ByteArray.size (toStr (toF (List.getD r4.1 0 em))) ≤ 2 ^ 62)) (jump w (J_law03_UtfEscapes_2_0 R k w n a ((((b ++ (⟨#[92, 117]⟩ : ByteArray)) ++ (toStr (toF (List.getD r3.1 0 em)))) ++ (⟨#[92, 117]⟩ : ByteArray)) ++ (toStr (toF (List.getD r4.1 0 em)))) c d))))))))))) := by kernel_rfl
theorem X_law03_UtfEscapes_1_0_eq (R : Orc) (k : Nat) (w : Bool) (a : List FV) (b : ByteArray) : K_law03_UtfEscapes_1 R k w (.exit 0) (X_law03_UtfEscapes_1_0 a b) = when (decide (ByteArray.size b + ByteArray.size (⟨#[34]⟩ : ByteArray) ≤ 2 ^ 62)) (onR (R N_utf_Unquote [.fz (.str (b ++ (⟨#[34]⟩ : ByteArray)))]) fun r5 => when (List.isEmpty r5.2 && allF [.fz, .fz] r5.1) (when (isStr (toF (List.getD r5.1 0 em))) (when (isInt .i64 (toF (List.getD r5.1 1 em))) (when (List.all [] (isInt .u8)) (ifB (ByteArray.toList (toStr (toF (List.getD r5.1 0 em))) == ByteArray.toList (⟨(List.map (fun e => UInt8.ofNat (toInt e).toNat) []).toArray⟩ : ByteArray))
 (ifB ((toInt (toF (List.getD r5.1 1 em))) == 0)
 (onR (R N_utf_Signs [.fz (.str (toStr (toF (List.getD r5.1 0 em))))]) fun r6 => when (List.isEmpty r6.2 && allF [.fz] r6.1) (when (isInt .i64 (toF (List.getD r6.1 0 em))) (ifB ((toInt (toF (List.getD r6.1 0 em))) == (List.length a : Int))
 (onR (R N_law03_lives []) fun r7 => when (List.isEmpty r7.2 && allF [.fz] r7.1) (when (isBool (toF (List.getD r7.1 0 em))) (some ([.fz (.bool (toBool (toF (List.getD r7.1 0 em))))], []))))
 (some ([.fz (.bool false)], [])))))
 (some ([.fz (.bool false)], [])))
 (some ([.fz (.bool false)], []))))))) := by kernel_rfl
theorem X_law03_UtfEscapes_1_1_eq (R : Orc) (k : Nat) (w : Bool) (a : List FV) (b : Bool) (c : ByteArray) : K_law03_UtfEscapes_1 R k w .ret (X_law03_UtfEscapes_1_1 a b c) = some ([.fz (.bool b)], []) := by kernel_rfl
theorem J_law03_UtfEscapes_2_0_eq (R : Orc) (k : Nat) (w : Bool) (n : Nat) (a : List FV) (b : ByteArray) (c d : Int) : J_law03_UtfEscapes_2_0 R k w n a b c d = onR (R N_ref03_Put [.fz (.int .i64 d)]) fun r8 => when (List.isEmpty r8.2 && allF [.fz] r8.1) (when ((isSl (toF (List.getD r8.1 0 em))) && (List.all (toSl (toF (List.getD r8.1 0 em))) (fits 1 false))) (when (decide (((0 : Nat) + List.length (toSl (toF (List.getD r8.1 0 em)))) * 1 ≤ roomy) && decide ((0 : Nat) + List.length (toSl (toF (List.getD r8.1 0 em))) ≤ roomy)) (ifB (List.isEmpty (toSl (toF (List.getD r8.1 0 em))))
 (L_law03_UtfEscapes_1_0 R k w n a b (IntKind.wrap .i64 (c + 1)))
 (L_law03_UtfEscapes_1_1 R k w n a b (IntKind.wrap .i64 (c + 1)) (toSl (toF (List.getD r8.1 0 em))))))) := by kernel_rfl
theorem L_law03_UtfEscapes_1_1_eq (R : Orc) (k : Nat) (w : Bool) (n : Nat) (a : List FV) (b : ByteArray) (c : Int) (d : List FV) : L_law03_UtfEscapes_1_1 R k w (n + 1) a b c d = ifB (decide (c < (List.length a : Int)))
 (when ((decide (0 ≤ c)) && (decide (c < (List.length a : Int)))) (when (fits 1 false (List.getD a (Int.toNat c) nilp)) (when (isInt .i64 (List.getD a (Int.toNat c) nilp)) (ifB (decide ((toInt (List.getD a (Int.toNat c) nilp)) < 0))
 (jump w (J_law03_UtfEscapes_1_1 R k w n a b c (toInt (List.getD a (Int.toNat c) nilp)) true d))
 (ifB (decide ((toInt (List.getD a (Int.toNat c) nilp)) > 1114111))
 (jump w (J_law03_UtfEscapes_1_1 R k w n a b c (toInt (List.getD a (Int.toNat c) nilp)) true d))
 (ifB (decide ((toInt (List.getD a (Int.toNat c) nilp)) ≥ 55296))
 (jump w (J_law03_UtfEscapes_1_1 R k w n a b c (toInt (List.getD a (Int.toNat c) nilp)) (decide ((toInt (List.getD a (Int.toNat c) nilp)) < 57344)) d))
 (jump w (J_law03_UtfEscapes_1_1 R k w n a b c (toInt (List.getD a (Int.toNat c) nilp)) false d))))))))
 (some ((.exit 0), X_law03_UtfEscapes_1_2 a b d)) := by kernel_rfl
theorem J_law03_UtfEscapes_1_1_eq (R : Orc) (k : Nat) (w : Bool) (n : Nat) (a : List FV) (b : ByteArray) (c d : Int) (e : Bool) (f : List FV) : J_law03_UtfEscapes_1_1 R k w n a b c d e f = ifB e
 (onR (R N_law03_lives []) fun r9 => when (List.isEmpty r9.2 && allF [.fz] r9.1) (when (isBool (toF (List.getD r9.1 0 em))) (some (.ret, X_law03_UtfEscapes_1_3 a (toBool (toF (List.getD r9.1 0 em))) b f))))
 (ifB (decide (d < 65536))
 (when (decide (ByteArray.size b + ByteArray.size (⟨#[92, 117]⟩ : ByteArray) ≤ 2 ^ 62)) (onR (R N_law03_hex [.fz (.int .i64 d)]) fun r10 => when (List.isEmpty r10.2 && allF [.fz] r10.1) (when (isStr (toF (List.getD r10.1 0 em))) (when (decide (ByteArray.size (b ++ (⟨#[92, 117]⟩ : ByteArray)) + ByteArray.size (toStr (toF (List.getD r10.1 0 em))) ≤ 2 ^ 62)) (jump w (J_law03_UtfEscapes_2_1 R k w n a ((b ++ (⟨#[92, 117]⟩ : ByteArray)) ++ (toStr (toF (List.getD r10.1 0 em)))) c d f))))))
 (when (decide (ByteArray.size b + ByteArray.size (⟨#[92, 117]⟩ : ByteArray) ≤ 2 ^ 62)) (onR (R N_law03_hex [.fz (.int .i64 (IntKind.wrap .i64 (55296 + (IntKind.wrap .i64 (Int.tdiv (IntKind.wrap .i64 (d - 65536)) 1024)))))]) fun r11 => when (List.isEmpty r11.2 && allF [.fz] r11.1) (when (isStr (toF (List.getD r11.1 0 em))) (when (decide (ByteArray.size (b ++ (⟨#[92, 117]⟩ : ByteArray)) + ByteArray.size (toStr (toF (List.getD r11.1 0 em))) ≤ 2 ^ 62)) (when (decide (ByteArray.size ((b ++ (⟨#[92, 117]⟩ : ByteArray)) ++ (toStr (toF (List.getD r11.1 0 em)))) + ByteArray.size (⟨#[92, 117]⟩ : ByteArray) ≤ 2 ^ 62)) (onR (R N_law03_hex [.fz (.int .i64 (IntKind.wrap .i64 (56320 + (Int.tmod (IntKind.wrap .i64 (d - 65536)) 1024))))]) fun r12 => when (List.isEmpty r12.2 && allF [.fz] r12.1) (when (isStr (toF (List.getD r12.1 0 em))) (when (decide (ByteArray.size (((b ++ (⟨#[92, 117]⟩ : ByteArray)) ++ (toStr (toF (List.getD r11.1 0 em)))) ++ (⟨#[92, 117]⟩ : ByteArray)) + ByteArray.size (toStr (toF (List.getD r12.1 0 em))) ≤ 2 ^ 62)) (jump w (J_law03_UtfEscapes_2_1 R k w n a ((((b ++ (⟨#[92, 117]⟩ : ByteArray)) ++ (toStr (toF (List.getD r11.1 0 em)))) ++ (⟨#[92, 117]⟩ : ByteArray)) ++ (toStr (toF (List.getD r12.1 0 em)))) c d f))))))))))) := by kernel_rfl
theorem X_law03_UtfEscapes_1_2_eq (R : Orc) (k : Nat) (w : Bool) (a : List FV) (b : ByteArray) (c : List FV) : K_law03_UtfEscapes_1 R k w (.exit 0) (X_law03_UtfEscapes_1_2 a b c) = when (decide (ByteArray.size b + ByteArray.size (⟨#[34]⟩ : ByteArray) ≤ 2 ^ 62)) (onR (R N_utf_Unquote [.fz (.str (b ++ (⟨#[34]⟩ : ByteArray)))]) fun r13 => when (List.isEmpty r13.2 && allF [.fz, .fz] r13.1) (when (isStr (toF (List.getD r13.1 0 em))) (when (isInt .i64 (toF (List.getD r13.1 1 em))) (when (List.all c (isInt .u8)) (ifB (ByteArray.toList (toStr (toF (List.getD r13.1 0 em))) == ByteArray.toList (⟨(List.map (fun e => UInt8.ofNat (toInt e).toNat) c).toArray⟩ : ByteArray))
 (ifB ((toInt (toF (List.getD r13.1 1 em))) == 0)
 (onR (R N_utf_Signs [.fz (.str (toStr (toF (List.getD r13.1 0 em))))]) fun r14 => when (List.isEmpty r14.2 && allF [.fz] r14.1) (when (isInt .i64 (toF (List.getD r14.1 0 em))) (ifB ((toInt (toF (List.getD r14.1 0 em))) == (List.length a : Int))
 (onR (R N_law03_lives []) fun r15 => when (List.isEmpty r15.2 && allF [.fz] r15.1) (when (isBool (toF (List.getD r15.1 0 em))) (some ([.fz (.bool (toBool (toF (List.getD r15.1 0 em))))], []))))
 (some ([.fz (.bool false)], [])))))
 (some ([.fz (.bool false)], [])))
 (some ([.fz (.bool false)], []))))))) := by kernel_rfl
theorem X_law03_UtfEscapes_1_3_eq (R : Orc) (k : Nat) (w : Bool) (a : List FV) (b : Bool) (c : ByteArray) (d : List FV) : K_law03_UtfEscapes_1 R k w .ret (X_law03_UtfEscapes_1_3 a b c d) = some ([.fz (.bool b)], []) := by kernel_rfl
theorem J_law03_UtfEscapes_2_1_eq (R : Orc) (k : Nat) (w : Bool) (n : Nat) (a : List FV) (b : ByteArray) (c d : Int) (e : List FV) : J_law03_UtfEscapes_2_1 R k w n a b c d e = onR (R N_ref03_Put [.fz (.int .i64 d)]) fun r16 => when (List.isEmpty r16.2 && allF [.fz] r16.1) (when ((isSl (toF (List.getD r16.1 0 em))) && (List.all (toSl (toF (List.getD r16.1 0 em))) (fits 1 false))) (when (decide ((List.length e + List.length (toSl (toF (List.getD r16.1 0 em)))) * 1 ≤ roomy) && decide (List.length e + List.length (toSl (toF (List.getD r16.1 0 em))) ≤ roomy)) (L_law03_UtfEscapes_1_1 R k w n a b (IntKind.wrap .i64 (c + 1)) (e ++ (toSl (toF (List.getD r16.1 0 em))))))) := by kernel_rfl
/-! keyhole/keyholelaw03.UtfBack -/
def C_law03_UtfBack : ACode := codeOf 7 Try.f7
def A_law03_UtfBack_b1 : ACode := C_law03_UtfBack.at [1, 1, 0, 1, 1, 0, 1, 0, 0]
def A_law03_UtfBack_s1 : ACode := C_law03_UtfBack.at [1, 1, 0, 1, 1, 1]
def A_law03_UtfBack_j2 : ACode := C_law03_UtfBack.at [1, 1, 0]
def A_law03_UtfBack : AFunc := ⟨2, [(.tmp 4, .fz)], C_law03_UtfBack, none⟩
def J_law03_UtfBack_2_0 (R : Orc) (k : Nat) (w : Bool) (a b : ByteArray) := execL R k w [] A_law03_UtfBack_j2 Ans ⟨[(0, .fz (.str a)), (1, .fz (.str b))], [(4095, .dead)]⟩ (kFin R [(.tmp 4, .fz)] [])
def K_law03_UtfBack_1 (R : Orc) (k : Nat) (w : Bool) : AExit → St → Option Ans := (kBlk 0 (kSeq R k w [] A_law03_UtfBack_s1 (kFin R [(.tmp 4, .fz)] [])))
def L_law03_UtfBack_1_0 (R : Orc) (k : Nat) (w : Bool) (n : Nat) (a b c : ByteArray) (d : Int) := loopL R k w [] [0, 1, 5, 7] [0, 1, 4, 5] A_law03_UtfBack_b1 n ⟨[(0, .fz (.str a)), (1, .fz (.str b)), (5, .fz (.str c)), (7, .fz (.int .i64 d))], [(4095, .dead)]⟩
def X_law03_UtfBack_1_0 (a b : ByteArray) (c : Bool) (d : ByteArray) : St := ⟨[(0, .fz (.str a)), (1, .fz (.str b)), (4, .fz (.bool c)), (5, .fz (.str d))], [(4095, .dead)]⟩
def X_law03_UtfBack_1_1 (a b c : ByteArray) : St := ⟨[(0, .fz (.str a)), (1, .fz (.str b)), (5, .fz (.str c))], [(4095, .dead)]⟩
theorem E_law03_UtfBack (R : Orc) (k : Nat) (w : Bool) (a b : ByteArray) : callL R k w A_law03_UtfBack [.fz (.str a), .fz (.str b)] = ifB (decide ((ByteArray.size a : Int) > 2000))
 (onR (R N_law03_lives []) fun r0 => when (List.isEmpty r0.2 && allF [.fz] r0.1) (when (isBool (toF (List.getD r0.1 0 em))) (some ([.fz (.bool (toBool (toF (List.getD r0.1 0 em))))], []))))
 (ifB (decide ((ByteArray.size b : Int) > 2000))
 (onR (R N_law03_lives []) fun r1 => when (List.isEmpty r1.2 && allF [.fz] r1.1) (when (isBool (toF (List.getD r1.1 0 em))) (some ([.fz (.bool (toBool (toF (List.getD r1.1 0 em))))], []))))
 (jump w (J_law03_UtfBack_2_0 R k w a b))) := by kernel_rfl
theorem J_law03_UtfBack_2_0_eq (R : Orc) (k : Nat) (w : Bool) (a b : ByteArray) : J_law03_UtfBack_2_0 R k w a b = onR (R N_utf_Quote [.fz (.str a)]) fun r2 => when (List.isEmpty r2.2 && allF [.fz, .fz] r2.1) (when (isStr (toF (List.getD r2.1 0 em))) (when (isInt .i64 (toF (List.getD r2.1 1 em))) (ifB ((toInt (toF (List.getD r2.1 1 em))) != 0)
 (onR (R N_utf_Valid [.fz (.str a)]) fun r3 => when (List.isEmpty r3.2 && allF [.fz] r3.1) (when (isBool (toF (List.getD r3.1 0 em))) (ifB (!(toBool (toF (List.getD r3.1 0 em))))
 (onR (R N_law03_lives []) fun r4 => when (List.isEmpty r4.2 && allF [.fz] r4.1) (when (isBool (toF (List.getD r4.1 0 em))) (some ([.fz (.bool (toBool (toF (List.getD r4.1 0 em))))], []))))
 (some ([.fz (.bool false)], [])))))
 (onL (L_law03_UtfBack_1_0 R k w k a b (toStr (toF (List.getD r2.1 0 em))) 0) (K_law03_UtfBack_1 R k w))))) := by kernel_rfl
theorem L_law03_UtfBack_1_0_eq (R : Orc) (k : Nat) (w : Bool) (n : Nat) (a b c : ByteArray) (d : Int) : L_law03_UtfBack_1_0 R k w (n + 1) a b c d = ifB (decide (d < (ByteArray.size c : Int)))
 (when ((decide (0 ≤ d)) && (decide (d < (ByteArray.size c : Int)))) (ifB (decide ((((Array.getD (ByteArray.data c) (Int.toNat d) 0).toNat : Nat) : Int) < 32))
 (some (.ret, X_law03_UtfBack_1_0 a b false c))
 (L_law03_UtfBack_1_0 R k w n a b c (IntKind.wrap .i64 (d + 1)))))
 (some ((.exit 0), X_law03_UtfBack_1_1 a b c)) := by kernel_rfl
theorem X_law03_UtfBack_1_0_eq (R : Orc) (k : Nat) (w : Bool) (a b : ByteArray) (c : Bool) (d : ByteArray) : K_law03_UtfBack_1 R k w .ret (X_law03_UtfBack_1_0 a b c d) = some ([.fz (.bool c)], []) := by kernel_rfl
theorem X_law03_UtfBack_1_1_eq (R : Orc) (k : Nat) (w : Bool) (a b c : ByteArray) : K_law03_UtfBack_1 R k w (.exit 0) (X_law03_UtfBack_1_1 a b c) = onR (R N_utf_Unquote [.fz (.str c)]) fun r5 => when (List.isEmpty r5.2 && allF [.fz, .fz] r5.1) (when (isStr (toF (List.getD r5.1 0 em))) (when (isInt .i64 (toF (List.getD r5.1 1 em))) (onR (R N_utf_Quote [.fz (.str b)]) fun r6 => when (List.isEmpty r6.2 && allF [.fz, .fz] r6.1) (when (isStr (toF (List.getD r6.1 0 em))) (when (isInt .i64 (toF (List.getD r6.1 1 em))) (ifB (ByteArray.toList (toStr (toF (List.getD r5.1 0 em))) == ByteArray.toList a)
 (ifB ((toInt (toF (List.getD r5.1 1 em))) == 0)
 (ifB ((toInt (toF (List.getD r6.1 1 em))) != 0)
 (onR (R N_utf_First [.fz (.str a), .fz (.int .i64 (ByteArray.size a : Int))]) fun r7 => when (List.isEmpty r7.2 && allF [.fz] r7.1) (when (isStr (toF (List.getD r7.1 0 em))) (ifB (ByteArray.toList (toStr (toF (List.getD r7.1 0 em))) == ByteArray.toList a)
 (onR (R N_law03_lives []) fun r8 => when (List.isEmpty r8.2 && allF [.fz] r8.1) (when (isBool (toF (List.getD r8.1 0 em))) (some ([.fz (.bool (toBool (toF (List.getD r8.1 0 em))))], []))))
 (some ([.fz (.bool false)], [])))))
 (ifB ((ByteArray.toList (toStr (toF (List.getD r6.1 0 em))) == ByteArray.toList c) == (ByteArray.toList b == ByteArray.toList a))
 (onR (R N_utf_First [.fz (.str a), .fz (.int .i64 (ByteArray.size a : Int))]) fun r9 => when (List.isEmpty r9.2 && allF [.fz] r9.1) (when (isStr (toF (List.getD r9.1 0 em))) (ifB (ByteArray.toList (toStr (toF (List.getD r9.1 0 em))) == ByteArray.toList a)
 (onR (R N_law03_lives []) fun r10 => when (List.isEmpty r10.2 && allF [.fz] r10.1) (when (isBool (toF (List.getD r10.1 0 em))) (some ([.fz (.bool (toBool (toF (List.getD r10.1 0 em))))], []))))
 (some ([.fz (.bool false)], [])))))
 (some ([.fz (.bool false)], []))))
 (some ([.fz (.bool false)], [])))
 (some ([.fz (.bool false)], [])))))))) := by kernel_rfl
/-! keyhole/keyholelaw03.lives -/
def C_law03_lives : ACode := codeOf 8 Try.f8
def A_law03_lives : AFunc := ⟨0, [(.tmp 0, .fz)], C_law03_lives, none⟩
theorem E_law03_lives (R : Orc) (k : Nat) (w : Bool) : callL R k w A_law03_lives [] = onR (R N_utf_Quote [.fz (.str (⟨#[97, 34, 1]⟩ : ByteArray))]) fun r0 => when (List.isEmpty r0.2 && allF [.fz, .fz] r0.1) (when (isStr (toF (List.getD r0.1 0 em))) (when (isInt .i64 (toF (List.getD r0.1 1 em))) (ifB (ByteArray.toList (toStr (toF (List.getD r0.1 0 em))) == ByteArray.toList (⟨#[34, 97, 92, 34, 92, 117, 48, 48, 48, 49, 34]⟩ : ByteArray))
 (some ([.fz (.bool ((toInt (toF (List.getD r0.1 1 em))) == 0))], []))
 (some ([.fz (.bool false)], []))))) := by kernel_rfl
/-! keyhole/keyholeref03.Signs -/
def C_ref03_Signs : ACode := codeOf 10 Try.f10
def A_ref03_Signs_j1 : ACode := C_ref03_Signs.at [1, 1, 0, 1, 0, 0, 1, 0, 1, 1, 0, 1, 0]
def A_ref03_Signs_j2 : ACode := C_ref03_Signs.at [1, 1, 0, 1, 0, 0, 1, 0, 1, 1, 1, 0, 1, 0, 0, 1, 0, 0, 1, 0, 0, 1, 1, 0]
def A_ref03_Signs_s3 : ACode := C_ref03_Signs.at [1, 1, 0, 1, 0, 0, 1, 0, 1, 1, 1, 0, 1, 0, 0, 1, 0, 0, 1, 1]
def A_ref03_Signs_b1 : ACode := C_ref03_Signs.at [1, 1, 0, 1, 0, 0, 1, 0, 1, 1, 1, 0, 1, 0, 0, 1, 0, 0]
def A_ref03_Signs_j4 : ACode := C_ref03_Signs.at [1, 1, 0, 1, 0, 0, 1, 0, 1, 1, 1, 0, 1, 0, 1, 1, 0]
def A_ref03_Signs_s5 : ACode := C_ref03_Signs.at [1, 1, 0, 1, 0, 0, 1, 0, 1, 1, 1, 0, 1, 0, 1]
def A_ref03_Signs_j6 : ACode := C_ref03_Signs.at [1, 1, 0, 1, 0, 0, 1, 0, 1, 1, 1, 0, 1, 0]
def A_ref03_Signs_j7 : ACode := C_ref03_Signs.at [1, 1, 0, 1, 0, 0, 1, 0, 1, 1, 1, 0]
def A_ref03_Signs_s8 : ACode := C_ref03_Signs.at [1, 1, 0, 1, 0, 0, 1, 0, 1, 1, 1]
def A_ref03_Signs_b2 : ACode := C_ref03_Signs.at [1, 1, 0, 1, 0, 0]
def A_ref03_Signs_s9 : ACode := C_ref03_Signs.at [1, 1, 1]
def A_ref03_Signs : AFunc := ⟨1, [(.tmp 2, .fz), (.tmp 3, .fz)], C_ref03_Signs, none⟩
def K_ref03_Signs_2 (R : Orc) (k : Nat) (w : Bool) : AExit → St → Option Ans := (kBlk 0 (kSeq R k w [] A_ref03_Signs_s9 (kFin R [(.tmp 2, .fz), (.tmp 3, .fz)] [])))
def L_ref03_Signs_2_0 (R : Orc) (k : Nat) (w : Bool) (n : Nat) (a : ByteArray) (b : Int) := loopL R k w [] [0, 4, 5] [2, 3, 4] A_ref03_Signs_b2 n ⟨[(0, .fz (.str a)), (4, .nils), (5, .fz (.int .i64 b))], [(4095, .dead)]⟩
def J_ref03_Signs_1_0 (R : Orc) (k : Nat) (w : Bool) (n : Nat) (a : ByteArray) (b c d e : Int) (f : Bool) := execL R k w [] A_ref03_Signs_j1 (AExit × St) ⟨[(0, .fz (.str a)), (4, .nils), (5, .fz (.int .i64 b)), (6, .fz (.int .i64 c)), (7, .fz (.int .i64 d)), (8, .fz (.int .i64 e)), (25, .fz (.bool f))], [(4095, .dead)]⟩ (kSeq R k w [] A_ref03_Signs_s8 (kBlk 1 (kLoop R k w [] [0, 4, 5] [2, 3, 4] A_ref03_Signs_b2 n)))
def X_ref03_Signs_2_0 : St := ⟨[(4, .nils)], [(4095, .dead)]⟩
def J_ref03_Signs_7_0 (R : Orc) (k : Nat) (w : Bool) (n : Nat) (a : ByteArray) (b c d e : Int) := execL R k w [] A_ref03_Signs_j7 (AExit × St) ⟨[(0, .fz (.str a)), (4, .nils), (5, .fz (.int .i64 b)), (6, .fz (.int .i64 c)), (7, .fz (.int .i64 d)), (8, .fz (.int .i64 e))], [(4095, .dead)]⟩ (kBlk 1 (kLoop R k w [] [0, 4, 5] [2, 3, 4] A_ref03_Signs_b2 n))
def X_ref03_Signs_2_1 (a : Bool) : St := ⟨[(2, .nils), (3, .fz (.bool a)), (4, .nils)], [(4095, .dead)]⟩
def J_ref03_Signs_6_0 (R : Orc) (k : Nat) (w : Bool) (n : Nat) (a : ByteArray) (b c d : Int) := execL R k w [] A_ref03_Signs_j6 (AExit × St) ⟨[(0, .fz (.str a)), (4, .nils), (5, .fz (.int .i64 b)), (7, .fz (.int .i64 c)), (8, .fz (.int .i64 d))], [(4095, .dead)]⟩ (kBlk 1 (kLoop R k w [] [0, 4, 5] [2, 3, 4] A_ref03_Signs_b2 n))
def K_ref03_Signs_1 (R : Orc) (k : Nat) (w : Bool) (n : Nat) : AExit → St → Option (AExit × St) := (kBlk 2 (kSeq R k w [] A_ref03_Signs_s5 (kBlk 1 (kLoop R k w [] [0, 4, 5] [2, 3, 4] A_ref03_Signs_b2 n))))
def L_ref03_Signs_1_0 (R : Orc) (k : Nat) (w : Bool) (n : Nat) (a : ByteArray) (b c d e : Int) := loopL R k w [] [0, 4, 5, 7, 8, 9] [0, 2, 3, 4, 5, 7, 8] A_ref03_Signs_b1 n ⟨[(0, .fz (.str a)), (4, .nils), (5, .fz (.int .i64 b)), (7, .fz (.int .i64 c)), (8, .fz (.int .i64 d)), (9, .fz (.int .i64 e))], [(4095, .dead)]⟩
def X_ref03_Signs_1_0 (a : ByteArray) (b : Bool) (c d e : Int) : St := ⟨[(0, .fz (.str a)), (2, .nils), (3, .fz (.bool b)), (4, .nils), (5, .fz (.int .i64 c)), (7, .fz (.int .i64 d)), (8, .fz (.int .i64 e))], [(4095, .dead)]⟩
def J_ref03_Signs_2_0 (R : Orc) (k : Nat) (w : Bool) (n : Nat) (a : ByteArray) (b c d e f : Int) := execL R k w [] A_ref03_Signs_j2 (AExit × St) ⟨[(0, .fz (.str a)), (4, .nils), (5, .fz (.int .i64 b)), (7, .fz (.int .i64 c)), (8, .fz (.int .i64 d)), (9, .fz (.int .i64 e)), (10, .fz (.int .i64 f))], [(4095, .dead)]⟩ (kBlk 3 (kSeq R k w [] A_ref03_Signs_s3 (kLoop R k w [] [0, 4, 5, 7, 8, 9] [0, 2, 3, 4, 5, 7, 8] A_ref03_Signs_b1 n)))
def X_ref03_Signs_1_1 (a : ByteArray) (b c d : Int) : St := ⟨[(0, .fz (.str a)), (4, .nils), (5, .fz (.int .i64 b)), (7, .fz (.int .i64 c)), (8, .fz (.int .i64 d))], [(4095, .dead)]⟩
def J_ref03_Signs_4_0 (R : Orc) (k : Nat) (w : Bool) (n : Nat) (a : ByteArray) (b c d : Int) := execL R k w [] A_ref03_Signs_j4 (AExit × St) ⟨[(0, .fz (.str a)), (4, .nils), (5, .fz (.int .i64 b)), (7, .fz (.int .i64 c)), (8, .fz (.int .i64 d))], [(4095, .dead)]⟩ (kBlk 1 (kLoop R k w [] [0, 4, 5] [2, 3, 4] A_ref03_Signs_b2 n))
def L_ref03_Signs_2_1 (R : Orc) (k : Nat) (w : Bool) (n : Nat) (a : ByteArray) (b : Int) (c : List FV) := loopL R k w [] [0, 4, 5] [2, 3, 4] A_ref03_Signs_b2 n ⟨[(0, .fz (.str a)), (4, .rw 4096), (5, .fz (.int .i64 b))], [(4095, .dead), (4096, .row 1 false c)]⟩
def J_ref03_Signs_1_1 (R : Orc) (k : Nat) (w : Bool) (n : Nat) (a : ByteArray) (b c d e : Int) (f : Bool) (g : List FV) := execL R k w [] A_ref03_Signs_j1 (AExit × St) ⟨[(0, .fz (.str a)), (4, .rw 4096), (5, .fz (.int .i64 b)), (6, .fz (.int .i64 c)), (7, .fz (.int .i64 d)), (8, .fz (.int .i64 e)), (25, .fz (.bool f))], [(4095, .dead), (4096, .row 1 false g)]⟩ (kSeq R k w [] A_ref03_Signs_s8 (kBlk 1 (kLoop R k w [] [0, 4, 5] [2, 3, 4] A_ref03_Signs_b2 n)))
def X_ref03_Signs_2_2 (a : List FV) : St := ⟨[(4, .rw 4096)], [(4095, .dead), (4096, .row 1 false a)]⟩
def J_ref03_Signs_7_1 (R : Orc) (k : Nat) (w : Bool) (n : Nat) (a : ByteArray) (b c d e : Int) (f : List FV) := execL R k w [] A_ref03_Signs_j7 (AExit × St) ⟨[(0, .fz (.str a)), (4, .rw 4096), (5, .fz (.int .i64 b)), (6, .fz (.int .i64 c)), (7, .fz (.int .i64 d)), (8, .fz (.int .i64 e))], [(4095, .dead), (4096, .row 1 false f)]⟩ (kBlk 1 (kLoop R k w [] [0, 4, 5] [2, 3, 4] A_ref03_Signs_b2 n))
def X_ref03_Signs_2_3 (a : Bool) (b : List FV) : St := ⟨[(2, .nils), (3, .fz (.bool a)), (4, .rw 4096)], [(4095, .dead), (4096, .row 1 false b)]⟩
def J_ref03_Signs_6_1 (R : Orc) (k : Nat) (w : Bool) (n : Nat) (a : ByteArray) (b c d : Int) (e : List FV) := execL R k w [] A_ref03_Signs_j6 (AExit × St) ⟨[(0, .fz (.str a)), (4, .rw 4096), (5, .fz (.int .i64 b)), (7, .fz (.int .i64 c)), (8, .fz (.int .i64 d))], [(4095, .dead), (4096, .row 1 false e)]⟩ (kBlk 1 (kLoop R k w [] [0, 4, 5] [2, 3, 4] A_ref03_Signs_b2 n))
def L_ref03_Signs_1_1 (R : Orc) (k : Nat) (w : Bool) (n : Nat) (a : ByteArray) (b c d e : Int) (f : List FV) := loopL R k w [] [0, 4, 5, 7, 8, 9] [0, 2, 3, 4, 5, 7, 8] A_ref03_Signs_b1 n ⟨[(0, .fz (.str a)), (4, .rw 4096), (5, .fz (.int .i64 b)), (7, .fz (.int .i64 c)), (8, .fz (.int .i64 d)), (9, .fz (.int .i64 e))], [(4095, .dead), (4096, .row 1 false f)]⟩
def X_ref03_Signs_1_2 (a : ByteArray) (b : Bool) (c d e : Int) (f : List FV) : St := ⟨[(0, .fz (.str a)), (2, .nils), (3, .fz (.bool b)), (4, .rw 4096), (5, .fz (.int .i64 c)), (7, .fz (.int .i64 d)), (8, .fz (.int .i64 e))], [(4095, .dead), (4096, .row 1 false f)]⟩
def J_ref03_Signs_2_1 (R : Orc) (k : Nat) (w : Bool) (n : Nat) (a : ByteArray) (b c d e f : Int) (g : List FV) := execL R k w [] A_ref03_Signs_j2 (AExit × St) ⟨[(0, .fz (.str a)), (4, .rw 4096), (5, .fz (.int .i64 b)), (7, .fz (.int .i64 c)), (8, .fz (.int .i64 d)), (9, .fz (.int .i64 e)), (10, .fz (.int .i64 f))], [(4095, .dead), (4096, .row 1 false g)]⟩ (kBlk 3 (kSeq R k w [] A_ref03_Signs_s3 (kLoop R k w [] [0, 4, 5, 7, 8, 9] [0, 2, 3, 4, 5, 7, 8] A_ref03_Signs_b1 n)))
def X_ref03_Signs_1_3 (a : ByteArray) (b c d : Int) (e : List FV) : St := ⟨[(0, .fz (.str a)), (4, .rw 4096), (5, .fz (.int .i64 b)), (7, .fz (.int .i64 c)), (8, .fz (.int .i64 d))], [(4095, .dead), (4096, .row 1 false e)]⟩
def J_ref03_Signs_4_1 (R : Orc) (k : Nat) (w : Bool) (n : Nat) (a : ByteArray) (b c d : Int) (e : List FV) := execL R k w [] A_ref03_Signs_j4 (AExit × St) ⟨[(0, .fz (.str a)), (4, .rw 4096), (5, .fz (.int .i64 b)), (7, .fz (.int .i64 c)), (8, .fz (.int .i64 d))], [(4095, .dead), (4096, .row 1 false e)]⟩ (kBlk 1 (kLoop R k w [] [0, 4, 5] [2, 3, 4] A_ref03_Signs_b2 n))
theorem E_ref03_Signs (R : Orc) (k : Nat) (w : Bool) (a : ByteArray) : callL R k w A_ref03_Signs [.fz (.str a)] = onL (L_ref03_Signs_2_0 R k w k a 0) (K_ref03_Signs_2 R k w) := by kernel_rfl
theorem L_ref03_Signs_2_0_eq (R : Orc) (k : Nat) (w : Bool) (n : Nat) (a : ByteArray) (b : Int) : L_ref03_Signs_2_0 R k w (n + 1) a b = ifB (decide (b < (ByteArray.size a : Int)))
 (when ((decide (0 ≤ b)) && (decide (b < (ByteArray.size a : Int)))) (ifB (decide ((IntKind.wrap .i64 (((Array.getD (ByteArray.data a) (Int.toNat b) 0).toNat : Nat) : Int)) ≥ 240))
 (jump w (J_ref03_Signs_1_0 R k w n a b (IntKind.wrap .i64 (((Array.getD (ByteArray.data a) (Int.toNat b) 0).toNat : Nat) : Int)) 1 (IntKind.wrap .i64 (((Array.getD (ByteArray.data a) (Int.toNat b) 0).toNat : Nat) : Int)) (decide ((IntKind.wrap .i64 (((Array.getD (ByteArray.data a) (Int.toNat b) 0).toNat : Nat) : Int)) < 248))))
 (jump w (J_ref03_Signs_1_0 R k w n a b (IntKind.wrap .i64 (((Array.getD (ByteArray.data a) (Int.toNat b) 0).toNat : Nat) : Int)) 1 (IntKind.wrap .i64 (((Array.getD (ByteArray.data a) (Int.toNat b) 0).toNat : Nat) : Int)) false))))
 (some ((.exit 0), X_ref03_Signs_2_0)) := by kernel_rfl
theorem J_ref03_Signs_1_0_eq (R : Orc) (k : Nat) (w : Bool) (n : Nat) (a : ByteArray) (b c d e : Int) (f : Bool) : J_ref03_Signs_1_0 R k w n a b c d e f = ifB f
 (jump w (J_ref03_Signs_7_0 R k w n a b c 4 (IntKind.wrap .i64 (c - 240))))
 (ifB (decide (c ≥ 224))
 (jump w (J_ref03_Signs_7_0 R k w n a b c 3 (IntKind.wrap .i64 (c - 224))))
 (ifB (decide (c ≥ 192))
 (jump w (J_ref03_Signs_7_0 R k w n a b c 2 (IntKind.wrap .i64 (c - 192))))
 (jump w (J_ref03_Signs_7_0 R k w n a b c d e)))) := by kernel_rfl
theorem X_ref03_Signs_2_0_eq (R : Orc) (k : Nat) (w : Bool) : K_ref03_Signs_2 R k w (.exit 0) (X_ref03_Signs_2_0) = some ([.fz (.sl []), .fz (.bool true)], []) := by kernel_rfl
theorem J_ref03_Signs_7_0_eq (R : Orc) (k : Nat) (w : Bool) (n : Nat) (a : ByteArray) (b c d e : Int) : J_ref03_Signs_7_0 R k w n a b c d e = ifB (decide (c ≥ 248))
 (some (.ret, X_ref03_Signs_2_1 false))
 (ifB (decide (c ≥ 128))
 (ifB (decide (c < 192))
 (some (.ret, X_ref03_Signs_2_1 false))
 (ifB (decide ((IntKind.wrap .i64 (b + d)) > (ByteArray.size a : Int)))
 (some (.ret, X_ref03_Signs_2_1 false))
 (jump w (J_ref03_Signs_6_0 R k w n a b d e))))
 (ifB (decide ((IntKind.wrap .i64 (b + d)) > (ByteArray.size a : Int)))
 (some (.ret, X_ref03_Signs_2_1 false))
 (jump w (J_ref03_Signs_6_0 R k w n a b d e)))) := by kernel_rfl
theorem X_ref03_Signs_2_1_eq (R : Orc) (k : Nat) (w a : Bool) : K_ref03_Signs_2 R k w .ret (X_ref03_Signs_2_1 a) = some ([.fz (.sl []), .fz (.bool a)], []) := by kernel_rfl
theorem J_ref03_Signs_6_0_eq (R : Orc) (k : Nat) (w : Bool) (n : Nat) (a : ByteArray) (b c d : Int) : J_ref03_Signs_6_0 R k w n a b c d = onL (L_ref03_Signs_1_0 R k w k a b c d 1) (K_ref03_Signs_1 R k w n) := by kernel_rfl
theorem L_ref03_Signs_1_0_eq (R : Orc) (k : Nat) (w : Bool) (n : Nat) (a : ByteArray) (b c d e : Int) : L_ref03_Signs_1_0 R k w (n + 1) a b c d e = ifB (decide (e < c))
 (when ((decide (0 ≤ (IntKind.wrap .i64 (b + e)))) && (decide ((IntKind.wrap .i64 (b + e)) < (ByteArray.size a : Int)))) (ifB (decide ((IntKind.wrap .i64 (((Array.getD (ByteArray.data a) (Int.toNat (IntKind.wrap .i64 (b + e))) 0).toNat : Nat) : Int)) < 128))
 (some (.ret, X_ref03_Signs_1_0 a false b c d))
 (ifB (decide ((IntKind.wrap .i64 (((Array.getD (ByteArray.data a) (Int.toNat (IntKind.wrap .i64 (b + e))) 0).toNat : Nat) : Int)) > 191))
 (some (.ret, X_ref03_Signs_1_0 a false b c d))
 (jump w (J_ref03_Signs_2_0 R k w n a b c d e (IntKind.wrap .i64 (((Array.getD (ByteArray.data a) (Int.toNat (IntKind.wrap .i64 (b + e))) 0).toNat : Nat) : Int)))))))
 (some ((.exit 2), X_ref03_Signs_1_1 a b c d)) := by kernel_rfl
theorem X_ref03_Signs_1_0_eq (R : Orc) (k : Nat) (w : Bool) (n : Nat) (a : ByteArray) (b : Bool) (c d e : Int) : K_ref03_Signs_1 R k w n .ret (X_ref03_Signs_1_0 a b c d e) = some (.ret, X_ref03_Signs_2_1 b) := by kernel_rfl
theorem J_ref03_Signs_2_0_eq (R : Orc) (k : Nat) (w : Bool) (n : Nat) (a : ByteArray) (b c d e f : Int) : J_ref03_Signs_2_0 R k w n a b c d e f = L_ref03_Signs_1_0 R k w n a b c (IntKind.wrap .i64 ((IntKind.wrap .i64 ((IntKind.wrap .i64 (64 * d)) + f)) - 128)) (IntKind.wrap .i64 (e + 1)) := by kernel_rfl
theorem X_ref03_Signs_1_1_eq (R : Orc) (k : Nat) (w : Bool) (n : Nat) (a : ByteArray) (b c d : Int) : K_ref03_Signs_1 R k w n (.exit 2) (X_ref03_Signs_1_1 a b c d) = ifB (decide (d > 1114111))
 (some (.ret, X_ref03_Signs_2_1 false))
 (ifB (decide (d ≥ 55296))
 (ifB (decide (d < 57344))
 (some (.ret, X_ref03_Signs_2_1 false))
 (onR (R N_ref03_Put [.fz (.int .i64 d)]) fun r0 => when (List.isEmpty r0.2 && allF [.fz] r0.1) (when ((isSl (toF (List.getD r0.1 0 em))) && (List.all (toSl (toF (List.getD r0.1 0 em))) (fits 1 false))) (when (List.all (toSl (toF (List.getD r0.1 0 em))) (isInt .u8)) (when (decide (0 ≤ (IntKind.wrap .i64 (b + c))) && decide ((IntKind.wrap .i64 (b + c)) ≤ (ByteArray.size a : Int))) (when (decide (0 ≤ b) && decide (b ≤ (IntKind.wrap .i64 (b + c)))) (ifB (!(ByteArray.toList (⟨(List.map (fun e => UInt8.ofNat (toInt e).toNat) (toSl (toF (List.getD r0.1 0 em)))).toArray⟩ : ByteArray) == ByteArray.toList (ByteArray.extract a (Int.toNat b) (Int.toNat (IntKind.wrap .i64 (b + c))))))
 (some (.ret, X_ref03_Signs_2_1 false))
 (jump w (J_ref03_Signs_4_0 R k w n a b c d)))))))))
 (onR (R N_ref03_Put [.fz (.int .i64 d)]) fun r1 => when (List.isEmpty r1.2 && allF [.fz] r1.1) (when ((isSl (toF (List.getD r1.1 0 em))) && (List.all (toSl (toF (List.getD r1.1 0 em))) (fits 1 false))) (when (List.all (toSl (toF (List.getD r1.1 0 em))) (isInt .u8)) (when (decide (0 ≤ (IntKind.wrap .i64 (b + c))) && decide ((IntKind.wrap .i64 (b + c)) ≤ (ByteArray.size a : Int))) (when (decide (0 ≤ b) && decide (b ≤ (IntKind.wrap .i64 (b + c)))) (ifB (!(ByteArray.toList (⟨(List.map (fun e => UInt8.ofNat (toInt e).toNat) (toSl (toF (List.getD r1.1 0 em)))).toArray⟩ : ByteArray) == ByteArray.toList (ByteArray.extract a (Int.toNat b) (Int.toNat (IntKind.wrap .i64 (b + c))))))
 (some (.ret, X_ref03_Signs_2_1 false))
 (jump w (J_ref03_Signs_4_0 R k w n a b c d))))))))) := by kernel_rfl
theorem J_ref03_Signs_4_0_eq (R : Orc) (k : Nat) (w : Bool) (n : Nat) (a : ByteArray) (b c d : Int) : J_ref03_Signs_4_0 R k w n a b c d = when (decide (((0 : Nat) + List.length [FV.int .i64 d]) * 8 ≤ roomy) && decide ((0 : Nat) + List.length [FV.int .i64 d] ≤ roomy)) (L_ref03_Signs_2_1 R k w n a (IntKind.wrap .i64 (b + c)) [.int .i64 d]) := by kernel_rfl
theorem L_ref03_Signs_2_1_eq (R : Orc) (k : Nat) (w : Bool) (n : Nat) (a : ByteArray) (b : Int) (c : List FV) : L_ref03_Signs_2_1 R k w (n + 1) a b c = ifB (decide (b < (ByteArray.size a : Int)))
 (when ((decide (0 ≤ b)) && (decide (b < (ByteArray.size a : Int)))) (ifB (decide ((IntKind.wrap .i64 (((Array.getD (ByteArray.data a) (Int.toNat b) 0).toNat : Nat) : Int)) ≥ 240))
 (jump w (J_ref03_Signs_1_1 R k w n a b (IntKind.wrap .i64 (((Array.getD (ByteArray.data a) (Int.toNat b) 0).toNat : Nat) : Int)) 1 (IntKind.wrap .i64 (((Array.getD (ByteArray.data a) (Int.toNat b) 0).toNat : Nat) : Int)) (decide ((IntKind.wrap .i64 (((Array.getD (ByteArray.data a) (Int.toNat b) 0).toNat : Nat) : Int)) < 248)) c))
 (jump w (J_ref03_Signs_1_1 R k w n a b (IntKind.wrap .i64 (((Array.getD (ByteArray.data a) (Int.toNat b) 0).toNat : Nat) : Int)) 1 (IntKind.wrap .i64 (((Array.getD (ByteArray.data a) (Int.toNat b) 0).toNat : Nat) : Int)) false c))))
 (some ((.exit 0), X_ref03_Signs_2_2 c)) := by kernel_rfl
theorem J_ref03_Signs_1_1_eq (R : Orc) (k : Nat) (w : Bool) (n : Nat) (a : ByteArray) (b c d e : Int) (f : Bool) (g : List FV) : J_ref03_Signs_1_1 R k w n a b c d e f g = ifB f
 (jump w (J_ref03_Signs_7_1 R k w n a b c 4 (IntKind.wrap .i64 (c - 240)) g))
 (ifB (decide (c ≥ 224))
 (jump w (J_ref03_Signs_7_1 R k w n a b c 3 (IntKind.wrap .i64 (c - 224)) g))
 (ifB (decide (c ≥ 192))
 (jump w (J_ref03_Signs_7_1 R k w n a b c 2 (IntKind.wrap .i64 (c - 192)) g))
 (jump w (J_ref03_Signs_7_1 R k w n a b c d e g)))) := by kernel_rfl
theorem X_ref03_Signs_2_2_eq (R : Orc) (k : Nat) (w : Bool) (a : List FV) : K_ref03_Signs_2 R k w (.exit 0) (X_ref03_Signs_2_2 a) = some ([.fz (.sl a), .fz (.bool true)], []) := by kernel_rfl
theorem J_ref03_Signs_7_1_eq (R : Orc) (k : Nat) (w : Bool) (n : Nat) (a : ByteArray) (b c d e : Int) (f : List FV) : J_ref03_Signs_7_1 R k w n a b c d e f = ifB (decide (c ≥ 248))
 (some (.ret, X_ref03_Signs_2_3 false f))
 (ifB (decide (c ≥ 128))
 (ifB (decide (c < 192))
 (some (.ret, X_ref03_Signs_2_3 false f))
 (ifB (decide ((IntKind.wrap .i64 (b + d)) > (ByteArray.size a : Int)))
 (some (.ret, X_ref03_Signs_2_3 false f))
 (jump w (J_ref03_Signs_6_1 R k w n a b d e f))))
 (ifB (decide ((IntKind.wrap .i64 (b + d)) > (ByteArray.size a : Int)))
 (some (.ret, X_ref03_Signs_2_3 false f))
 (jump w (J_ref03_Signs_6_1 R k w n a b d e f)))) := by kernel_rfl
theorem X_ref03_Signs_2_3_eq (R : Orc) (k : Nat) (w a : Bool) (b : List FV) : K_ref03_Signs_2 R k w .ret (X_ref03_Signs_2_3 a b) = some ([.fz (.sl []), .fz (.bool a)], []) := by kernel_rfl
theorem J_ref03_Signs_6_1_eq (R : Orc) (k : Nat) (w : Bool) (n : Nat) (a : ByteArray) (b c d : Int) (e : List FV) : J_ref03_Signs_6_1 R k w n a b c d e = onL (L_ref03_Signs_1_1 R k w k a b c d 1 e) (K_ref03_Signs_1 R k w n) := by kernel_rfl
theorem L_ref03_Signs_1_1_eq (R : Orc) (k : Nat) (w : Bool) (n : Nat) (a : ByteArray) (b c d e : Int) (f : List FV) : L_ref03_Signs_1_1 R k w (n + 1) a b c d e f = ifB (decide (e < c))
 (when ((decide (0 ≤ (IntKind.wrap .i64 (b + e)))) && (decide ((IntKind.wrap .i64 (b + e)) < (ByteArray.size a : Int)))) (ifB (decide ((IntKind.wrap .i64 (((Array.getD (ByteArray.data a) (Int.toNat (IntKind.wrap .i64 (b + e))) 0).toNat : Nat) : Int)) < 128))
 (some (.ret, X_ref03_Signs_1_2 a false b c d f))
 (ifB (decide ((IntKind.wrap .i64 (((Array.getD (ByteArray.data a) (Int.toNat (IntKind.wrap .i64 (b + e))) 0).toNat : Nat) : Int)) > 191))
 (some (.ret, X_ref03_Signs_1_2 a false b c d f))
 (jump w (J_ref03_Signs_2_1 R k w n a b c d e (IntKind.wrap .i64 (((Array.getD (ByteArray.data a) (Int.toNat (IntKind.wrap .i64 (b + e))) 0).toNat : Nat) : Int)) f)))))
 (some ((.exit 2), X_ref03_Signs_1_3 a b c d f)) := by kernel_rfl
theorem X_ref03_Signs_1_2_eq (R : Orc) (k : Nat) (w : Bool) (n : Nat) (a : ByteArray) (b : Bool) (c d e : Int) (f : List FV) : K_ref03_Signs_1 R k w n .ret (X_ref03_Signs_1_2 a b c d e f) = some (.ret, X_ref03_Signs_2_3 b f) := by kernel_rfl
theorem J_ref03_Signs_2_1_eq (R : Orc) (k : Nat) (w : Bool) (n : Nat) (a : ByteArray) (b c d e f : Int) (g : List FV) : J_ref03_Signs_2_1 R k w n a b c d e f g = L_ref03_Signs_1_1 R k w n a b c (IntKind.wrap .i64 ((IntKind.wrap .i64 ((IntKind.wrap .i64 (64 * d)) + f)) - 128)) (IntKind.wrap .i64 (e + 1)) g := by kernel_rfl
theorem X_ref03_Signs_1_3_eq (R : Orc) (k : Nat) (w : Bool) (n : Nat) (a : ByteArray) (b c d : Int) (f : List FV) : K_ref03_Signs_1 R k w n (.exit 2) (X_ref03_Signs_1_3 a b c d f) = ifB (decide (d > 1114111))
 (some (.ret, X_ref03_Signs_2_3 false f))
 (ifB (decide (d ≥ 55296))
 (ifB (decide (d < 57344))
 (some (.ret, X_ref03_Signs_2_3 false f))
 (onR (R N_ref03_Put [.fz (.int .i64 d)]) fun r2 => when (List.isEmpty r2.2 && allF [.fz] r2.1) (when ((isSl (toF (List.getD r2.1 0 em))) && (List.all (toSl (toF (List.getD r2.1 0 em))) (fits 1 false))) (when (List.all (toSl (toF (List.getD r2.1 0 em))) (isInt .u8)) (when (decide (0 ≤ (IntKind.wrap .i64 (b + c))) && decide ((IntKind.wrap .i64 (b + c)) ≤ (ByteArray.size a : Int))) (when (decide (0 ≤ b) && decide (b ≤ (IntKind.wrap .i64 (b + c)))) (ifB (!(ByteArray.toList (⟨(List.map (fun e => UInt8.ofNat (toInt e).toNat) (toSl (toF (List.getD r2.1 0 em)))).toArray⟩ : ByteArray) == ByteArray.toList (ByteArray.extract a (Int.toNat b) (Int.toNat (IntKind.wrap .i64 (b + c))))))
 (some (.ret, X_ref03_Signs_2_3 false f))
 (jump w (J_ref03_Signs_4_1 R k w n a b c d f)))))))))
 (onR (R N_ref03_Put [.fz (.int .i64 d)]) fun r3 => when (List.isEmpty r3.2 && allF [.fz] r3.1) (when ((isSl (toF (List.getD r3.1 0 em))) && (List.all (toSl (toF (List.getD r3.1 0 em))) (fits 1 false))) (when (List.all (toSl (toF (List.getD r3.1 0 em))) (isInt .u8)) (when (decide (0 ≤ (IntKind.wrap .i64 (b + c))) && decide ((IntKind.wrap .i64 (b + c)) ≤ (ByteArray.size a : Int))) (when (decide (0 ≤ b) && decide (b ≤ (IntKind.wrap .i64 (b + c)))) (ifB (!(ByteArray.toList (⟨(List.map (fun e => UInt8.ofNat (toInt e).toNat) (toSl (toF (List.getD r3.1 0 em)))).toArray⟩ : ByteArray) == ByteArray.toList (ByteArray.extract a (Int.toNat b) (Int.toNat (IntKind.wrap .i64 (b + c))))))
 (some (.ret, X_ref03_Signs_2_3 false f))
 (jump w (J_ref03_Signs_4_1 R k w n a b c d f))))))))) := by kernel_rfl
theorem J_ref03_Signs_4_1_eq (R : Orc) (k : Nat) (w : Bool) (n : Nat) (a : ByteArray) (b c d : Int) (e : List FV) : J_ref03_Signs_4_1 R k w n a b c d e = when (decide ((List.length e + List.length [FV.int .i64 d]) * 8 ≤ roomy) && decide (List.length e + List.length [FV.int .i64 d] ≤ roomy)) (L_ref03_Signs_2_1 R k w n a (IntKind.wrap .i64 (b + c)) (e ++ [FV.int .i64 d])) := by kernel_rfl
/-! keyhole/keyholeref03.Put -/
def C_ref03_Put : ACode := codeOf 12 Try.f12
def A_ref03_Put : AFunc := ⟨1, [(.tmp 2, .fz)], C_ref03_Put, none⟩
theorem E_ref03_Put (R : Orc) (k : Nat) (w : Bool) (a : Int) : callL R k w A_ref03_Put [.fz (.int .i64 a)] = ifB (decide (a < 128))
 (some ([.fz (.sl [(.int .u8 (IntKind.wrap .u8 a))])], []))
 (ifB (decide (a < 2048))
 (some ([.fz (.sl [(.int .u8 (IntKind.wrap .u8 (IntKind.wrap .i64 (192 + (IntKind.wrap .i64 (Int.tdiv a 64)))))), (.int .u8 (IntKind.wrap .u8 (IntKind.wrap .i64 (128 + (Int.tmod a 64)))))])], []))
 (ifB (decide (a < 65536))
 (some ([.fz (.sl [(.int .u8 (IntKind.wrap .u8 (IntKind.wrap .i64 (224 + (IntKind.wrap .i64 (Int.tdiv a 4096)))))), (.int .u8 (IntKind.wrap .u8 (IntKind.wrap .i64 (128 + (Int.tmod (IntKind.wrap .i64 (Int.tdiv a 64)) 64))))), (.int .u8 (IntKind.wrap .u8 (IntKind.wrap .i64 (128 + (Int.tmod a 64)))))])], []))
 (some ([.fz (.sl [(.int .u8 (IntKind.wrap .u8 (IntKind.wrap .i64 (240 + (IntKind.wrap .i64 (Int.tdiv a 262144)))))), (.int .u8 (IntKind.wrap .u8 (IntKind.wrap .i64 (128 + (Int.tmod (IntKind.wrap .i64 (Int.tdiv a 4096)) 64))))), (.int .u8 (IntKind.wrap .u8 (IntKind.wrap .i64 (128 + (Int.tmod (IntKind.wrap .i64 (Int.tdiv a 64)) 64))))), (.int .u8 (IntKind.wrap .u8 (IntKind.wrap .i64 (128 + (Int.tmod a 64)))))])], [])))) := by kernel_rfl
/-! keyhole/utf.Valid -/
def C_utf_Valid : ACode := codeOf 13 Try.f13
def A_utf_Valid_b1 : ACode := C_utf_Valid.at [1, 0, 0, 0]
def A_utf_Valid_s1 : ACode := C_utf_Valid.at [1, 1]
def A_utf_Valid : AFunc := ⟨1, [(.tmp 2, .fz)], C_utf_Valid, none⟩
def K_utf_Valid_1 (R : Orc) (k : Nat) (w : Bool) : AExit → St → Option Ans := (kBlk 0 (kSeq R k w [] A_utf_Valid_s1 (kFin R [(.tmp 2, .fz)] [])))
def L_utf_Valid_1_0 (R : Orc) (k : Nat) (w : Bool) (n : Nat) (a : ByteArray) := loopL R k w [] [0] [2] A_utf_Valid_b1 n ⟨[(0, .fz (.str a))], [(4095, .dead)]⟩
def X_utf_Valid_1_0 (a : Bool) : St := ⟨[(2, .fz (.bool a))], [(4095, .dead)]⟩
def X_utf_Valid_1_1 : St := ⟨[], [(4095, .dead)]⟩
theorem E_utf_Valid (R : Orc) (k : Nat) (w : Bool) (a : ByteArray) : callL R k w A_utf_Valid [.fz (.str a)] = onL (L_utf_Valid_1_0 R k w k a) (K_utf_Valid_1 R k w) := by kernel_rfl
theorem L_utf_Valid_1_0_eq (R : Orc) (k : Nat) (w : Bool) (n : Nat) (a : ByteArray) : L_utf_Valid_1_0 R k w (n + 1) a = ifB (!(ByteArray.toList a == ByteArray.toList (⟨#[]⟩ : ByteArray)))
 (onR (R N_utf_size [.fz (.str a)]) fun r0 => when (List.isEmpty r0.2 && allF [.fz] r0.1) (when (isInt .i64 (toF (List.getD r0.1 0 em))) (ifB ((toInt (toF (List.getD r0.1 0 em))) == 0)
 (some (.ret, X_utf_Valid_1_0 false))
 (when (decide (0 ≤ (ByteArray.size a : Int)) && decide ((ByteArray.size a : Int) ≤ (ByteArray.size a : Int))) (when (decide (0 ≤ (toInt (toF (List.getD r0.1 0 em)))) && decide ((toInt (toF (List.getD r0.1 0 em))) ≤ (ByteArray.size a : Int))) (L_utf_Valid_1_0 R k w n (ByteArray.extract a (Int.toNat (toInt (toF (List.getD r0.1 0 em)))) (Int.toNat (ByteArray.size a : Int)))))))))
 (some ((.exit 0), X_utf_Valid_1_1)) := by kernel_rfl
theorem X_utf_Valid_1_0_eq (R : Orc) (k : Nat) (w a : Bool) : K_utf_Valid_1 R k w .ret (X_utf_Valid_1_0 a) = some ([.fz (.bool a)], []) := by kernel_rfl
theorem X_utf_Valid_1_1_eq (R : Orc) (k : Nat) (w : Bool) : K_utf_Valid_1 R k w (.exit 0) (X_utf_Valid_1_1) = some ([.fz (.bool true)], []) := by kernel_rfl
/-! keyhole/utf.Signs -/
def C_utf_Signs : ACode := codeOf 14 Try.f14
def A_utf_Signs_b1 : ACode := C_utf_Signs.at [1, 1, 1, 0, 1, 0, 0]
def A_utf_Signs_s1 : ACode := C_utf_Signs.at [1, 1, 1, 1]
def A_utf_Signs : AFunc := ⟨1, [(.tmp 2, .fz)], C_utf_Signs, none⟩
def K_utf_Signs_1 (R : Orc) (k : Nat) (w : Bool) : AExit → St → Option Ans := (kBlk 0 (kSeq R k w [] A_utf_Signs_s1 (kFin R [(.tmp 2, .fz)] [])))
def L_utf_Signs_1_0 (R : Orc) (k : Nat) (w : Bool) (n : Nat) (a : Int) (b : ByteArray) (c : Nat) := loopL R k w [] [3, 8] [3] A_utf_Signs_b1 n ⟨[(3, .fz (.int .i64 a)), (8, .ptr 4096 0 0)], [(4095, .dead), (4096, .itr b c)]⟩
def X_utf_Signs_1_0 (a : Int) : St := ⟨[(3, .fz (.int .i64 a))], [(4095, .dead)]⟩
theorem E_utf_Signs (R : Orc) (k : Nat) (w : Bool) (a : ByteArray) : callL R k w A_utf_Signs [.fz (.str a)] = onR (R N_utf_Valid [.fz (.str a)]) fun r0 => when (List.isEmpty r0.2 && allF [.fz] r0.1) (when (isBool (toF (List.getD r0.1 0 em))) (ifB (!(toBool (toF (List.getD r0.1 0 em))))
 (some ([.fz (.int .i64 0)], []))
 (onL (L_utf_Signs_1_0 R k w k 0 a 0) (K_utf_Signs_1 R k w)))) := by kernel_rfl
theorem L_utf_Signs_1_0_eq (R : Orc) (k : Nat) (w : Bool) (n : Nat) (a : Int) (b : ByteArray) (c : Nat) : L_utf_Signs_1_0 R k w (n + 1) a b c = ifB (Nat.blt c (ByteArray.size b))
 (L_utf_Signs_1_0 R k w n (IntKind.wrap .i64 (a + 1)) b (c + (Utf8.decode b c).2))
 (some ((.exit 0), X_utf_Signs_1_0 a)) := by kernel_rfl
theorem X_utf_Signs_1_0_eq (R : Orc) (k : Nat) (w : Bool) (a : Int) : K_utf_Signs_1 R k w (.exit 0) (X_utf_Signs_1_0 a) = some ([.fz (.int .i64 a)], []) := by kernel_rfl
/-! keyhole/utf.First -/
def C_utf_First : ACode := codeOf 15 Try.f15
def A_utf_First_b1 : ACode := C_utf_First.at [1, 1, 0, 1, 0, 1, 0, 0]
def A_utf_First_s1 : ACode := C_utf_First.at [1, 1, 0, 1, 1]
def A_utf_First_j2 : ACode := C_utf_First.at [1, 1, 0]
def A_utf_First : AFunc := ⟨2, [(.tmp 4, .fz)], C_utf_First, none⟩
def J_utf_First_2_0 (R : Orc) (k : Nat) (w : Bool) (a : ByteArray) (b : Int) := execL R k w [] A_utf_First_j2 Ans ⟨[(0, .fz (.str a)), (1, .fz (.int .i64 b))], [(4095, .dead)]⟩ (kFin R [(.tmp 4, .fz)] [])
def K_utf_First_1 (R : Orc) (k : Nat) (w : Bool) : AExit → St → Option Ans := (kBlk 0 (kSeq R k w [] A_utf_First_s1 (kFin R [(.tmp 4, .fz)] [])))
def L_utf_First_1_0 (R : Orc) (k : Nat) (w : Bool) (n : Nat) (a : ByteArray) (b c : Int) (d : ByteArray) (e : Nat) := loopL R k w [] [0, 1, 5, 15] [0, 4] A_utf_First_b1 n ⟨[(0, .fz (.str a)), (1, .fz (.int .i64 b)), (5, .fz (.int .i64 c)), (15, .ptr 4096 0 0)], [(4095, .dead), (4096, .itr d e)]⟩
def X_utf_First_1_0 (a b : ByteArray) : St := ⟨[(0, .fz (.str a)), (4, .fz (.str b))], [(4095, .dead)]⟩
def X_utf_First_1_1 (a : ByteArray) : St := ⟨[(0, .fz (.str a))], [(4095, .dead)]⟩
theorem E_utf_First (R : Orc) (k : Nat) (w : Bool) (a : ByteArray) (b : Int) : callL R k w A_utf_First [.fz (.str a), .fz (.int .i64 b)] = ifB (decide (b < 1))
 (some ([.fz (.str (⟨#[]⟩ : ByteArray))], []))
 (onR (R N_utf_Valid [.fz (.str a)]) fun r0 => when (List.isEmpty r0.2 && allF [.fz] r0.1) (when (isBool (toF (List.getD r0.1 0 em))) (ifB (!(toBool (toF (List.getD r0.1 0 em))))
 (some ([.fz (.str (⟨#[]⟩ : ByteArray))], []))
 (jump w (J_utf_First_2_0 R k w a b))))) := by kernel_rfl
theorem J_utf_First_2_0_eq (R : Orc) (k : Nat) (w : Bool) (a : ByteArray) (b : Int) : J_utf_First_2_0 R k w a b = onL (L_utf_First_1_0 R k w k a b 0 a 0) (K_utf_First_1 R k w) := by kernel_rfl
theorem L_utf_First_1_0_eq (R : Orc) (k : Nat) (w : Bool) (n : Nat) (a : ByteArray) (b c : Int) (d : ByteArray) (e : Nat) : L_utf_First_1_0 R k w (n + 1) a b c d e = ifB (Nat.blt e (ByteArray.size d))
 (ifB (c == b)
 (when (decide (0 ≤ (e : Int)) && decide ((e : Int) ≤ (ByteArray.size a : Int))) (when (decide (0 ≤ 0) && decide (0 ≤ (e : Int))) (some (.ret, X_utf_First_1_0 a (ByteArray.extract a 0 (Int.toNat (e : Int)))))))
 (L_utf_First_1_0 R k w n a b (IntKind.wrap .i64 (c + 1)) d (e + (Utf8.decode d e).2)))
 (some ((.exit 0), X_utf_First_1_1 a)) := by kernel_rfl
theorem X_utf_First_1_0_eq (R : Orc) (k : Nat) (w : Bool) (a b : ByteArray) : K_utf_First_1 R k w .ret (X_utf_First_1_0 a b) = some ([.fz (.str b)], []) := by kernel_rfl
theorem X_utf_First_1_1_eq (R : Orc) (k : Nat) (w : Bool) (a : ByteArray) : K_utf_First_1 R k w (.exit 0) (X_utf_First_1_1 a) = some ([.fz (.str a)], []) := by kernel_rfl
/-! keyhole/keyholeref03.Unquote -/
def C_ref03_Unquote : ACode := codeOf 17 Try.f17
def A_ref03_Unquote_j1 : ACode := C_ref03_Unquote.at [1, 1, 0, 1, 1, 1, 0, 1, 0, 0, 1, 0, 1, 1, 0, 1, 1, 1, 1, 1, 1, 0, 1, 0, 0, 1, 1, 1, 0]
def A_ref03_Unquote_j2 : ACode := C_ref03_Unquote.at [1, 1, 0, 1, 1, 1, 0, 1, 0, 0, 1, 0, 1, 1, 0, 1, 1, 1, 1, 1, 1, 0, 1, 0]
def A_ref03_Unquote_j3 : ACode := C_ref03_Unquote.at [1, 1, 0, 1, 1, 1, 0, 1, 0, 0, 1, 0, 1, 1, 0, 1, 1, 1, 1, 1, 1, 1, 0, 1, 0]
def A_ref03_Unquote_j4 : ACode := C_ref03_Unquote.at [1, 1, 0, 1, 1, 1, 0, 1, 0, 0, 1, 0, 1, 1, 0, 1, 1, 1, 1, 1, 1, 1, 0]
def A_ref03_Unquote_s5 : ACode := C_ref03_Unquote.at [1, 1, 0, 1, 1, 1, 0, 1, 0, 0, 1, 0, 1, 1, 0, 1, 1, 1, 1, 1, 1, 1]
def A_ref03_Unquote_j6 : ACode := C_ref03_Unquote.at [1, 1, 0, 1, 1, 1, 0, 1, 0, 0, 1, 0, 1, 1, 0]
def A_ref03_Unquote_b1 : ACode := C_ref03_Unquote.at [1, 1, 0, 1, 1, 1, 0, 1, 0, 0]
def A_ref03_Unquote_j7 : ACode := C_ref03_Unquote.at [1, 1, 0, 1, 1, 1, 1, 1, 1, 0]
def A_ref03_Unquote_s8 : ACode := C_ref03_Unquote.at [1, 1, 0, 1, 1, 1, 1]
def A_ref03_Unquote_j9 : ACode := C_ref03_Unquote.at [1, 1, 0]
def A_ref03_Unquote : AFunc := ⟨1, [(.tmp 2, .fz), (.tmp 3, .fz)], C_ref03_Unquote, none⟩
def J_ref03_Unquote_9_0 (R : Orc) (k : Nat) (w : Bool) (a : ByteArray) := execL R k w [] A_ref03_Unquote_j9 Ans ⟨[(0, .fz (.str a))], [(4095, .dead)]⟩ (kFin R [(.tmp 2, .fz), (.tmp 3, .fz)] [])
def K_ref03_Unquote_1 (R : Orc) (k : Nat) (w : Bool) : AExit → St → Option Ans := (kBlk 0 (kSeq R k w [] A_ref03_Unquote_s8 (kFin R [(.tmp 2, .fz), (.tmp 3, .fz)] [])))
def L_ref03_Unquote_1_0 (R : Orc) (k : Nat) (w : Bool) (n : Nat) (a : ByteArray) (b : Bool) (c : Int) := loopL R k w [] [0, 4, 5, 6] [2, 3, 4, 5] A_ref03_Unquote_b1 n ⟨[(0, .fz (.str a)), (4, .nils), (5, .fz (.bool b)), (6, .fz (.int .i64 c))], [(4095, .dead)]⟩
def X_ref03_Unquote_1_0 (a : ByteArray) (b : Int) (c : Bool) : St := ⟨[(2, .fz (.str a)), (3, .fz (.int .i64 b)), (4, .nils), (5, .fz (.bool c))], [(4095, .dead)]⟩
def J_ref03_Unquote_6_0 (R : Orc) (k : Nat) (w : Bool) (n : Nat) (a : ByteArray) (b : Bool) (c d : Int) := execL R k w [] A_ref03_Unquote_j6 (AExit × St) ⟨[(0, .fz (.str a)), (4, .nils), (5, .fz (.bool b)), (6, .fz (.int .i64 c)), (7, .fz (.int .u8 d))], [(4095, .dead)]⟩ (kBlk 1 (kLoop R k w [] [0, 4, 5, 6] [2, 3, 4, 5] A_ref03_Unquote_b1 n))
def X_ref03_Unquote_1_1 (a : Bool) : St := ⟨[(4, .nils), (5, .fz (.bool a))], [(4095, .dead)]⟩
def L_ref03_Unquote_1_1 (R : Orc) (k : Nat) (w : Bool) (n : Nat) (a : ByteArray) (b : Bool) (c : Int) (d : List FV) := loopL R k w [] [0, 4, 5, 6] [2, 3, 4, 5] A_ref03_Unquote_b1 n ⟨[(0, .fz (.str a)), (4, .rw 4096), (5, .fz (.bool b)), (6, .fz (.int .i64 c))], [(4095, .dead), (4096, .row 1 false d)]⟩
def J_ref03_Unquote_2_0 (R : Orc) (k : Nat) (w : Bool) (n : Nat) (a : ByteArray) (b : Bool) (c d : Int) (e : Bool) := execL R k w [] A_ref03_Unquote_j2 (AExit × St) ⟨[(0, .fz (.str a)), (4, .nils), (5, .fz (.bool b)), (6, .fz (.int .i64 c)), (9, .fz (.int .i64 d)), (112, .fz (.bool e))], [(4095, .dead)]⟩ (kSeq R k w [] A_ref03_Unquote_s5 (kBlk 1 (kLoop R k w [] [0, 4, 5, 6] [2, 3, 4, 5] A_ref03_Unquote_b1 n)))
def J_ref03_Unquote_7_0 (R : Orc) (k : Nat) (w : Bool) := execL R k w [] A_ref03_Unquote_j7 Ans ⟨[(4, .nils)], [(4095, .dead)]⟩ (kFin R [(.tmp 2, .fz), (.tmp 3, .fz)] [])
def X_ref03_Unquote_1_2 (a : ByteArray) (b : Int) (c : Bool) (d : List FV) : St := ⟨[(2, .fz (.str a)), (3, .fz (.int .i64 b)), (4, .rw 4096), (5, .fz (.bool c))], [(4095, .dead), (4096, .row 1 false d)]⟩
def J_ref03_Unquote_6_1 (R : Orc) (k : Nat) (w : Bool) (n : Nat) (a : ByteArray) (b : Bool) (c d : Int) (e : List FV) := execL R k w [] A_ref03_Unquote_j6 (AExit × St) ⟨[(0, .fz (.str a)), (4, .rw 4096), (5, .fz (.bool b)), (6, .fz (.int .i64 c)), (7, .fz (.int .u8 d))], [(4095, .dead), (4096, .row 1 false e)]⟩ (kBlk 1 (kLoop R k w [] [0, 4, 5, 6] [2, 3, 4, 5] A_ref03_Unquote_b1 n))
def X_ref03_Unquote_1_3 (a : Bool) (b : List FV) : St := ⟨[(4, .rw 4096), (5, .fz (.bool a))], [(4095, .dead), (4096, .row 1 false b)]⟩
def J_ref03_Unquote_1_0 (R : Orc) (k : Nat) (w : Bool) (n : Nat) (a : ByteArray) (b : Bool) (c d e : Int) (f : Bool) := execL R k w [] A_ref03_Unquote_j1 (AExit × St) ⟨[(0, .fz (.str a)), (4, .nils), (5, .fz (.bool b)), (6, .fz (.int .i64 c)), (9, .fz (.int .i64 d)), (10, .fz (.int .i64 e)), (124, .fz (.bool f))], [(4095, .dead)]⟩ (kSeq R k w [] A_ref03_Unquote_s5 (kBlk 1 (kLoop R k w [] [0, 4, 5, 6] [2, 3, 4, 5] A_ref03_Unquote_b1 n)))
def J_ref03_Unquote_4_0 (R : Orc) (k : Nat) (w : Bool) (n : Nat) (a : ByteArray) (b : Bool) (c d : Int) := execL R k w [] A_ref03_Unquote_j4 (AExit × St) ⟨[(0, .fz (.str a)), (4, .nils), (5, .fz (.bool b)), (6, .fz (.int .i64 c)), (9, .fz (.int .i64 d))], [(4095, .dead)]⟩ (kBlk 1 (kLoop R k w [] [0, 4, 5, 6] [2, 3, 4, 5] A_ref03_Unquote_b1 n))
def J_ref03_Unquote_2_1 (R : Orc) (k : Nat) (w : Bool) (n : Nat) (a : ByteArray) (b : Bool) (c d : Int) (e : Bool) (f : List FV) := execL R k w [] A_ref03_Unquote_j2 (AExit × St) ⟨[(0, .fz (.str a)), (4, .rw 4096), (5, .fz (.bool b)), (6, .fz (.int .i64 c)), (9, .fz (.int .i64 d)), (112, .fz (.bool e))], [(4095, .dead), (4096, .row 1 false f)]⟩ (kSeq R k w [] A_ref03_Unquote_s5 (kBlk 1 (kLoop R k w [] [0, 4, 5, 6] [2, 3, 4, 5] A_ref03_Unquote_b1 n)))
def J_ref03_Unquote_7_1 (R : Orc) (k : Nat) (w : Bool) (a : List FV) := execL R k w [] A_ref03_Unquote_j7 Ans ⟨[(4, .rw 4096)], [(4095, .dead), (4096, .row 1 false a)]⟩ (kFin R [(.tmp 2, .fz), (.tmp 3, .fz)] [])
def J_ref03_Unquote_3_0 (R : Orc) (k : Nat) (w : Bool) (n : Nat) (a : ByteArray) (b : Bool) (c d : Int) := execL R k w [] A_ref03_Unquote_j3 (AExit × St) ⟨[(0, .fz (.str a)), (4, .nils), (5, .fz (.bool b)), (6, .fz (.int .i64 c)), (9, .fz (.int .i64 d))], [(4095, .dead)]⟩ (kBlk 1 (kLoop R k w [] [0, 4, 5, 6] [2, 3, 4, 5] A_ref03_Unquote_b1 n))
def J_ref03_Unquote_1_1 (R : Orc) (k : Nat) (w : Bool) (n : Nat) (a : ByteArray) (b : Bool) (c d e : Int) (f : Bool) (g : List FV) := execL R k w [] A_ref03_Unquote_j1 (AExit × St) ⟨[(0, .fz (.str a)), (4, .rw 4096), (5, .fz (.bool b)), (6, .fz (.int .i64 c)), (9, .fz (.int .i64 d)), (10, .fz (.int .i64 e)), (124, .fz (.bool f))], [(4095, .dead), (4096, .row 1 false g)]⟩ (kSeq R k w [] A_ref03_Unquote_s5 (kBlk 1 (kLoop R k w [] [0, 4, 5, 6] [2, 3, 4, 5] A_ref03_Unquote_b1 n)))
def J_ref03_Unquote_4_1 (R : Orc) (k : Nat) (w : Bool) (n : Nat) (a : ByteArray) (b : Bool) (c d : Int) (e : List FV) := execL R k w [] A_ref03_Unquote_j4 (AExit × St) ⟨[(0, .fz (.str a)), (4, .rw 4096), (5, .fz (.bool b)), (6, .fz (.int .i64 c)), (9, .fz (.int .i64 d))], [(4095, .dead), (4096, .row 1 false e)]⟩ (kBlk 1 (kLoop R k w [] [0, 4, 5, 6] [2, 3, 4, 5] A_ref03_Unquote_b1 n))
def J_ref03_Unquote_3_1 (R : Orc) (k : Nat) (w : Bool) (n : Nat) (a : ByteArray) (b : Bool) (c d : Int) (e : List FV) := execL R k w [] A_ref03_Unquote_j3 (AExit × St) ⟨[(0, .fz (.str a)), (4, .rw 4096), (5, .fz (.bool b)), (6, .fz (.int .i64 c)), (9, .fz (.int .i64 d))], [(4095, .dead), (4096, .row 1 false e)]⟩ (kBlk 1 (kLoop R k w [] [0, 4, 5, 6] [2, 3, 4, 5] A_ref03_Unquote_b1 n))
theorem E_ref03_Unquote (R : Orc) (k : Nat) (w : Bool) (a : ByteArray) : callL R k w A_ref03_Unquote [.fz (.str a)] = ifB (decide ((ByteArray.size a : Int) < 2))
 (some ([.fz (.str (⟨#[]⟩ : ByteArray)), .fz (.int .i64 3)], []))
 (when (decide (0 < (ByteArray.size a : Int))) (ifB ((((Array.getD (ByteArray.data a) 0 0).toNat : Nat) : Int) != 34)
 (some ([.fz (.str (⟨#[]⟩ : ByteArray)), .fz (.int .i64 3)], []))
 (when ((decide (0 ≤ (IntKind.wrap .i64 ((ByteArray.size a : Int) - 1)))) && (decide ((IntKind.wrap .i64 ((ByteArray.size a : Int) - 1)) < (ByteArray.size a : Int)))) (ifB ((((Array.getD (ByteArray.data a) (Int.toNat (IntKind.wrap .i64 ((ByteArray.size a : Int) - 1))) 0).toNat : Nat) : Int) != 34)
 (some ([.fz (.str (⟨#[]⟩ : ByteArray)), .fz (.int .i64 3)], []))
 (jump w (J_ref03_Unquote_9_0 R k w a)))))) := by kernel_rfl
theorem J_ref03_Unquote_9_0_eq (R : Orc) (k : Nat) (w : Bool) (a : ByteArray) : J_ref03_Unquote_9_0 R k w a = when (decide (0 ≤ (IntKind.wrap .i64 ((ByteArray.size a : Int) - 1))) && decide ((IntKind.wrap .i64 ((ByteArray.size a : Int) - 1)) ≤ (ByteArray.size a : Int))) (when (decide (0 ≤ 1) && decide (1 ≤ (IntKind.wrap .i64 ((ByteArray.size a : Int) - 1)))) (onL (L_ref03_Unquote_1_0 R k w k (ByteArray.extract a 1 (Int.toNat (IntKind.wrap .i64 ((ByteArray.size a : Int) - 1)))) false 0) (K_ref03_Unquote_1 R k w))) := by kernel_rfl
theorem L_ref03_Unquote_1_0_eq (R : Orc) (k : Nat) (w : Bool) (n : Nat) (a : ByteArray) (b : Bool) (c : Int) : L_ref03_Unquote_1_0 R k w (n + 1) a b c = ifB (decide (c < (ByteArray.size a : Int)))
 (when ((decide (0 ≤ c)) && (decide (c < (ByteArray.size a : Int)))) (ifB ((((Array.getD (ByteArray.data a) (Int.toNat c) 0).toNat : Nat) : Int) == 34)
 (some (.ret, X_ref03_Unquote_1_0 (⟨#[]⟩ : ByteArray) 3 b))
 (ifB (decide ((((Array.getD (ByteArray.data a) (Int.toNat c) 0).toNat : Nat) : Int) < 32))
 (some (.ret, X_ref03_Unquote_1_0 (⟨#[]⟩ : ByteArray) 3 b))
 (jump w (J_ref03_Unquote_6_0 R k w n a b c (((Array.getD (ByteArray.data a) (Int.toNat c) 0).toNat : Nat) : Int))))))
 (some ((.exit 0), X_ref03_Unquote_1_1 b)) := by kernel_rfl
theorem X_ref03_Unquote_1_0_eq (R : Orc) (k : Nat) (w : Bool) (a : ByteArray) (b : Int) (c : Bool) : K_ref03_Unquote_1 R k w .ret (X_ref03_Unquote_1_0 a b c) = some ([.fz (.str a), .fz (.int .i64 b)], []) := by kernel_rfl
theorem J_ref03_Unquote_6_0_eq (R : Orc) (k : Nat) (w : Bool) (n : Nat) (a : ByteArray) (b : Bool) (c d : Int) : J_ref03_Unquote_6_0 R k w n a b c d = ifB (d != 92)
 (when (decide (((0 : Nat) + List.length [FV.int .u8 d]) * 1 ≤ roomy) && decide ((0 : Nat) + List.length [FV.int .u8 d] ≤ roomy)) (L_ref03_Unquote_1_1 R k w n a b (IntKind.wrap .i64 (c + 1)) [.int .u8 d]))
 (ifB (decide ((IntKind.wrap .i64 (c + 1)) ≥ (ByteArray.size a : Int)))
 (some (.ret, X_ref03_Unquote_1_0 (⟨#[]⟩ : ByteArray) 3 b))
 (when ((decide (0 ≤ (IntKind.wrap .i64 (c + 1)))) && (decide ((IntKind.wrap .i64 (c + 1)) < (ByteArray.size a : Int)))) (ifB ((((Array.getD (ByteArray.data a) (Int.toNat (IntKind.wrap .i64 (c + 1))) 0).toNat : Nat) : Int) != 117)
 (when ((decide (0 ≤ (IntKind.wrap .i64 (c + 1)))) && (decide ((IntKind.wrap .i64 (c + 1)) < (ByteArray.size a : Int)))) (onR (R N_ref03_simple [.fz (.int .u8 (((Array.getD (ByteArray.data a) (Int.toNat (IntKind.wrap .i64 (c + 1))) 0).toNat : Nat) : Int))]) fun r0 => when (List.isEmpty r0.2 && allF [.fz] r0.1) (when (isInt .i64 (toF (List.getD r0.1 0 em))) (ifB (decide ((toInt (toF (List.getD r0.1 0 em))) < 0))
 (some (.ret, X_ref03_Unquote_1_0 (⟨#[]⟩ : ByteArray) 3 b))
 (when (decide (((0 : Nat) + List.length [(FV.int .u8 (IntKind.wrap .u8 (toInt (toF (List.getD r0.1 0 em)))))]) * 1 ≤ roomy) && decide ((0 : Nat) + List.length [(FV.int .u8 (IntKind.wrap .u8 (toInt (toF (List.getD r0.1 0 em)))))] ≤ roomy)) (L_ref03_Unquote_1_1 R k w n a b (IntKind.wrap .i64 (c + 2)) [(.int .u8 (IntKind.wrap .u8 (toInt (toF (List.getD r0.1 0 em)))))]))))))
 (onR (R N_ref03_four [.fz (.str a), .fz (.int .i64 (IntKind.wrap .i64 (c + 2)))]) fun r1 => when (List.isEmpty r1.2 && allF [.fz] r1.1) (when (isInt .i64 (toF (List.getD r1.1 0 em))) (ifB (decide ((toInt (toF (List.getD r1.1 0 em))) < 0))
 (some (.ret, X_ref03_Unquote_1_0 (⟨#[]⟩ : ByteArray) 3 b))
 (ifB (decide ((toInt (toF (List.getD r1.1 0 em))) ≥ 55296))
 (ifB (decide ((toInt (toF (List.getD r1.1 0 em))) < 56320))
 (ifB (decide ((IntKind.wrap .i64 ((IntKind.wrap .i64 (c + 6)) + 1)) < (ByteArray.size a : Int)))
 (when ((decide (0 ≤ (IntKind.wrap .i64 (c + 6)))) && (decide ((IntKind.wrap .i64 (c + 6)) < (ByteArray.size a : Int)))) (ifB ((((Array.getD (ByteArray.data a) (Int.toNat (IntKind.wrap .i64 (c + 6))) 0).toNat : Nat) : Int) == 92)
 (when ((decide (0 ≤ (IntKind.wrap .i64 ((IntKind.wrap .i64 (c + 6)) + 1)))) && (decide ((IntKind.wrap .i64 ((IntKind.wrap .i64 (c + 6)) + 1)) < (ByteArray.size a : Int)))) (jump w (J_ref03_Unquote_2_0 R k w n a b (IntKind.wrap .i64 (c + 6)) (toInt (toF (List.getD r1.1 0 em))) ((((Array.getD (ByteArray.data a) (Int.toNat (IntKind.wrap .i64 ((IntKind.wrap .i64 (c + 6)) + 1))) 0).toNat : Nat) : Int) == 117))))
 (jump w (J_ref03_Unquote_2_0 R k w n a b (IntKind.wrap .i64 (c + 6)) (toInt (toF (List.getD r1.1 0 em))) false))))
 (jump w (J_ref03_Unquote_2_0 R k w n a b (IntKind.wrap .i64 (c + 6)) (toInt (toF (List.getD r1.1 0 em))) false)))
 (jump w (J_ref03_Unquote_2_0 R k w n a b (IntKind.wrap .i64 (c + 6)) (toInt (toF (List.getD r1.1 0 em))) false)))
 (jump w (J_ref03_Unquote_2_0 R k w n a b (IntKind.wrap .i64 (c + 6)) (toInt (toF (List.getD r1.1 0 em))) false))))))))) := by kernel_rfl
theorem X_ref03_Unquote_1_1_eq (R : Orc) (k : Nat) (w a : Bool) : K_ref03_Unquote_1 R k w (.exit 0) (X_ref03_Unquote_1_1 a) = when (List.all [] (isInt .u8)) (onR (R N_ref03_Signs [.fz (.str (⟨(List.map (fun e => UInt8.ofNat (toInt e).toNat) []).toArray⟩ : ByteArray))]) fun r2 => when (List.isEmpty r2.2 && allF [.fz, .fz] r2.1) (when (isBool (toF (List.getD r2.1 1 em))) (ifB a
 (some ([.fz (.str (⟨#[]⟩ : ByteArray)), .fz (.int .i64 7)], []))
 (ifB (!(toBool (toF (List.getD r2.1 1 em))))
 (some ([.fz (.str (⟨#[]⟩ : ByteArray)), .fz (.int .i64 7)], []))
 (jump w (J_ref03_Unquote_7_0 R k w)))))) := by kernel_rfl
theorem L_ref03_Unquote_1_1_eq (R : Orc) (k : Nat) (w : Bool) (n : Nat) (a : ByteArray) (b : Bool) (c : Int) (d : List FV) : L_ref03_Unquote_1_1 R k w (n + 1) a b c d = ifB (decide (c < (ByteArray.size a : Int)))
 (when ((decide (0 ≤ c)) && (decide (c < (ByteArray.size a : Int)))) (ifB ((((Array.getD (ByteArray.data a) (Int.toNat c) 0).toNat : Nat) : Int) == 34)
 (some (.ret, X_ref03_Unquote_1_2 (⟨#[]⟩ : ByteArray) 3 b d))
 (ifB (decide ((((Array.getD (ByteArray.data a) (Int.toNat c) 0).toNat : Nat) : Int) < 32))
 (some (.ret, X_ref03_Unquote_1_2 (⟨#[]⟩ : ByteArray) 3 b d))
 (jump w (J_ref03_Unquote_6_1 R k w n a b c (((Array.getD (ByteArray.data a) (Int.toNat c) 0).toNat : Nat) : Int) d)))))
 (some ((.exit 0), X_ref03_Unquote_1_3 b d)) := by kernel_rfl
theorem J_ref03_Unquote_2_0_eq (R : Orc) (k : Nat) (w : Bool) (n : Nat) (a : ByteArray) (b : Bool) (c d : Int) (e : Bool) : J_ref03_Unquote_2_0 R k w n a b c d e = ifB e
 (onR (R N_ref03_four [.fz (.str a), .fz (.int .i64 (IntKind.wrap .i64 (c + 2)))]) fun r3 => when (List.isEmpty r3.2 && allF [.fz] r3.1) (when (isInt .i64 (toF (List.getD r3.1 0 em))) (ifB (decide ((toInt (toF (List.getD r3.1 0 em))) < 0))
 (some (.ret, X_ref03_Unquote_1_0 (⟨#[]⟩ : ByteArray) 3 b))
 (ifB (decide ((toInt (toF (List.getD r3.1 0 em))) ≥ 56320))
 (jump w (J_ref03_Unquote_1_0 R k w n a b c d (toInt (toF (List.getD r3.1 0 em))) (decide ((toInt (toF (List.getD r3.1 0 em))) < 57344))))
 (jump w (J_ref03_Unquote_1_0 R k w n a b c d (toInt (toF (List.getD r3.1 0 em))) false))))))
 (jump w (J_ref03_Unquote_4_0 R k w n a b c d)) := by kernel_rfl
theorem J_ref03_Unquote_7_0_eq (R : Orc) (k : Nat) (w : Bool) : J_ref03_Unquote_7_0 R k w = when (List.all [] (isInt .u8)) (some ([.fz (.str (⟨(List.map (fun e => UInt8.ofNat (toInt e).toNat) []).toArray⟩ : ByteArray)), .fz (.int .i64 0)], [])) := by kernel_rfl
theorem X_ref03_Unquote_1_2_eq (R : Orc) (k : Nat) (w : Bool) (a : ByteArray) (b : Int) (c : Bool) (d : List FV) : K_ref03_Unquote_1 R k w .ret (X_ref03_Unquote_1_2 a b c d) = some ([.fz (.str a), .fz (.int .i64 b)], []) := by kernel_rfl
theorem J_ref03_Unquote_6_1_eq (R : Orc) (k : Nat) (w : Bool) (n : Nat) (a : ByteArray) (b : Bool) (c d : Int) (e : List FV) : J_ref03_Unquote_6_1 R k w n a b c d e = ifB (d != 92)
 (when (decide ((List.length e + List.length [FV.int .u8 d]) * 1 ≤ roomy) && decide (List.length e + List.length [FV.int .u8 d] ≤ roomy)) (L_ref03_Unquote_1_1 R k w n a b (IntKind.wrap .i64 (c + 1)) (e ++ [FV.int .u8 d])))
 (ifB (decide ((IntKind.wrap .i64 (c + 1)) ≥ (ByteArray.size a : Int)))
 (some (.ret, X_ref03_Unquote_1_2 (⟨#[]⟩ : ByteArray) 3 b e))
 (when ((decide (0 ≤ (IntKind.wrap .i64 (c + 1)))) && (decide ((IntKind.wrap .i64 (c + 1)) < (ByteArray.size a : Int)))) (ifB ((((Array.getD (ByteArray.data a) (Int.toNat (IntKind.wrap .i64 (c + 1))) 0).toNat : Nat) : Int) != 117)
 (when ((decide (0 ≤ (IntKind.wrap .i64 (c + 1)))) && (decide ((IntKind.wrap .i64 (c + 1)) < (ByteArray.size a : Int)))) (onR (R N_ref03_simple [.fz (.int .u8 (((Array.getD (ByteArray.data a) (Int.toNat (IntKind.wrap .i64 (c + 1))) 0).toNat : Nat) : Int))]) fun r4 => when (List.isEmpty r4.2 && allF [.fz] r4.1) (when (isInt .i64 (toF (List.getD r4.1 0 em))) (ifB (decide ((toInt (toF (List.getD r4.1 0 em))) < 0))
 (some (.ret, X_ref03_Unquote_1_2 (⟨#[]⟩ : ByteArray) 3 b e))
 (when (decide ((List.length e + List.length [(FV.int .u8 (IntKind.wrap .u8 (toInt (toF (List.getD r4.1 0 em)))))]) * 1 ≤ roomy) && decide (List.length e + List.length [(FV.int .u8 (IntKind.wrap .u8 (toInt (toF (List.getD r4.1 0 em)))))] ≤ roomy)) (L_ref03_Unquote_1_1 R k w n a b (IntKind.wrap .i64 (c + 2)) (e ++ [(FV.int .u8 (IntKind.wrap .u8 (toInt (toF (List.getD r4.1 0 em)))))])))))))
 (onR (R N_ref03_four [.fz (.str a), .fz (.int .i64 (IntKind.wrap .i64 (c + 2)))]) fun r5 => when (List.isEmpty r5.2 && allF [.fz] r5.1) (when (isInt .i64 (toF (List.getD r5.1 0 em))) (ifB (decide ((toInt (toF (List.getD r5.1 0 em))) < 0))
 (some (.ret, X_ref03_Unquote_1_2 (⟨#[]⟩ : ByteArray) 3 b e))
 (ifB (decide ((toInt (toF (List.getD r5.1 0 em))) ≥ 55296))
 (ifB (decide ((toInt (toF (List.getD r5.1 0 em))) < 56320))
 (ifB (decide ((IntKind.wrap .i64 ((IntKind.wrap .i64 (c + 6)) + 1)) < (ByteArray.size a : Int)))
 (when ((decide (0 ≤ (IntKind.wrap .i64 (c + 6)))) && (decide ((IntKind.wrap .i64 (c + 6)) < (ByteArray.size a : Int)))) (ifB ((((Array.getD (ByteArray.data a) (Int.toNat (IntKind.wrap .i64 (c + 6))) 0).toNat : Nat) : Int) == 92)
 (when ((decide (0 ≤ (IntKind.wrap .i64 ((IntKind.wrap .i64 (c + 6)) + 1)))) && (decide ((IntKind.wrap .i64 ((IntKind.wrap .i64 (c + 6)) + 1)) < (ByteArray.size a : Int)))) (jump w (J_ref03_Unquote_2_1 R k w n a b (IntKind.wrap .i64 (c + 6)) (toInt (toF (List.getD r5.1 0 em))) ((((Array.getD (ByteArray.data a) (Int.toNat (IntKind.wrap .i64 ((IntKind.wrap .i64 (c + 6)) + 1))) 0).toNat : Nat) : Int) == 117) e)))
 (jump w (J_ref03_Unquote_2_1 R k w n a b (IntKind.wrap .i64 (c + 6)) (toInt (toF (List.getD r5.1 0 em))) false e))))
 (jump w (J_ref03_Unquote_2_1 R k w n a b (IntKind.wrap .i64 (c + 6)) (toInt (toF (List.getD r5.1 0 em))) false e)))
 (jump w (J_ref03_Unquote_2_1 R k w n a b (IntKind.wrap .i64 (c + 6)) (toInt (toF (List.getD r5.1 0 em))) false e)))
 (jump w (J_ref03_Unquote_2_1 R k w n a b (IntKind.wrap .i64 (c + 6)) (toInt (toF (List.getD r5.1 0 em))) false e))))))))) := by kernel_rfl
theorem X_ref03_Unquote_1_3_eq (R : Orc) (k : Nat) (w a : Bool) (b : List FV) : K_ref03_Unquote_1 R k w (.exit 0) (X_ref03_Unquote_1_3 a b) = when (List.all b (isInt .u8)) (onR (R N_ref03_Signs [.fz (.str (⟨(List.map (fun e => UInt8.ofNat (toInt e).toNat) b).toArray⟩ : ByteArray))]) fun r6 => when (List.isEmpty r6.2 && allF [.fz, .fz] r6.1) (when (isBool (toF (List.getD r6.1 1 em))) (ifB a
 (some ([.fz (.str (⟨#[]⟩ : ByteArray)), .fz (.int .i64 7)], []))
 (ifB (!(toBool (toF (List.getD r6.1 1 em))))
 (some ([.fz (.str (⟨#[]⟩ : ByteArray)), .fz (.int .i64 7)], []))
 (jump w (J_ref03_Unquote_7_1 R k w b)))))) := by kernel_rfl
theorem J_ref03_Unquote_1_0_eq (R : Orc) (k : Nat) (w : Bool) (n : Nat) (a : ByteArray) (b : Bool) (c d e : Int) (f : Bool) : J_ref03_Unquote_1_0 R k w n a b c d e f = ifB f
 (onR (R N_ref03_Put [.fz (.int .i64 (IntKind.wrap .i64 ((IntKind.wrap .i64 ((IntKind.wrap .i64 (65536 + (IntKind.wrap .i64 (1024 * (IntKind.wrap .i64 (d - 55296)))))) + e)) - 56320)))]) fun r7 => when (List.isEmpty r7.2 && allF [.fz] r7.1) (when ((isSl (toF (List.getD r7.1 0 em))) && (List.all (toSl (toF (List.getD r7.1 0 em))) (fits 1 false))) (when (decide (((0 : Nat) + List.length (toSl (toF (List.getD r7.1 0 em)))) * 1 ≤ roomy) && decide ((0 : Nat) + List.length (toSl (toF (List.getD r7.1 0 em))) ≤ roomy)) (ifB (List.isEmpty (toSl (toF (List.getD r7.1 0 em))))
 (L_ref03_Unquote_1_0 R k w n a b (IntKind.wrap .i64 (c + 6)))
 (L_ref03_Unquote_1_1 R k w n a b (IntKind.wrap .i64 (c + 6)) (toSl (toF (List.getD r7.1 0 em))))))))
 (jump w (J_ref03_Unquote_4_0 R k w n a b c d)) := by kernel_rfl
theorem J_ref03_Unquote_4_0_eq (R : Orc) (k : Nat) (w : Bool) (n : Nat) (a : ByteArray) (b : Bool) (c d : Int) : J_ref03_Unquote_4_0 R k w n a b c d = ifB (decide (d ≥ 55296))
 (ifB (decide (d < 57344))
 (L_ref03_Unquote_1_0 R k w n a true c)
 (jump w (J_ref03_Unquote_3_0 R k w n a b c d)))
 (jump w (J_ref03_Unquote_3_0 R k w n a b c d)) := by kernel_rfl
theorem J_ref03_Unquote_2_1_eq (R : Orc) (k : Nat) (w : Bool) (n : Nat) (a : ByteArray) (b : Bool) (c d : Int) (e : Bool) (f : List FV) : J_ref03_Unquote_2_1 R k w n a b c d e f = ifB e
 (onR (R N_ref03_four [.fz (.str a), .fz (.int .i64 (IntKind.wrap .i64 (c + 2)))]) fun r8 => when (List.isEmpty r8.2 && allF [.fz] r8.1) (when (isInt .i64 (toF (List.getD r8.1 0 em))) (ifB (decide ((toInt (toF (List.getD r8.1 0 em))) < 0))
 (some (.ret, X_ref03_Unquote_1_2 (⟨#[]⟩ : ByteArray) 3 b f))
 (ifB (decide ((toInt (toF (List.getD r8.1 0 em))) ≥ 56320))
 (jump w (J_ref03_Unquote_1_1 R k w n a b c d (toInt (toF (List.getD r8.1 0 em))) (decide ((toInt (toF (List.getD r8.1 0 em))) < 57344)) f))
 (jump w (J_ref03_Unquote_1_1 R k w n a b c d (toInt (toF (List.getD r8.1 0 em))) false f))))))
 (jump w (J_ref03_Unquote_4_1 R k w n a b c d f)) := by kernel_rfl
theorem J_ref03_Unquote_7_1_eq (R : Orc) (k : Nat) (w : Bool) (a : List FV) : J_ref03_Unquote_7_1 R k w a = when (List.all a (isInt .u8)) (some ([.fz (.str (⟨(List.map (fun e => UInt8.ofNat (toInt e).toNat) a).toArray⟩ : ByteArray)), .fz (.int .i64 0)], [])) := by kernel_rfl
theorem J_ref03_Unquote_3_0_eq (R : Orc) (k : Nat) (w : Bool) (n : Nat) (a : ByteArray) (b : Bool) (c d : Int) : J_ref03_Unquote_3_0 R k w n a b c d = onR (R N_ref03_Put [.fz (.int .i64 d)]) fun r9 => when (List.isEmpty r9.2 && allF [.fz] r9.1) (when ((isSl (toF (List.getD r9.1 0 em))) && (List.all (toSl (toF (List.getD r9.1 0 em))) (fits 1 false))) (when (decide (((0 : Nat) + List.length (toSl (toF (List.getD r9.1 0 em)))) * 1 ≤ roomy) && decide ((0 : Nat) + List.length (toSl (toF (List.getD r9.1 0 em))) ≤ roomy)) (ifB (List.isEmpty (toSl (toF (List.getD r9.1 0 em))))
 (L_ref03_Unquote_1_0 R k w n a b c)
 (L_ref03_Unquote_1_1 R k w n a b c (toSl (toF (List.getD r9.1 0 em))))))) := by kernel_rfl
theorem J_ref03_Unquote_1_1_eq (R : Orc) (k : Nat) (w : Bool) (n : Nat) (a : ByteArray) (b : Bool) (c d e : Int) (f : Bool) (g : List FV) : J_ref03_Unquote_1_1 R k w n a b c d e f g = ifB f
 (onR (R N_ref03_Put [.fz (.int .i64 (IntKind.wrap .i64 ((IntKind.wrap .i64 ((IntKind.wrap .i64 (65536 + (IntKind.wrap .i64 (1024 * (IntKind.wrap .i64 (d - 55296)))))) + e)) - 56320)))]) fun r10 => when (List.isEmpty r10.2 && allF [.fz] r10.1) (when ((isSl (toF (List.getD r10.1 0 em))) && (List.all (toSl (toF (List.getD r10.1 0 em))) (fits 1 false))) (when (decide ((List.length g + List.length (toSl (toF (List.getD r10.1 0 em)))) * 1 ≤ roomy) && decide (List.length g + List.length (toSl (toF (List.getD r10.1 0 em))) ≤ roomy)) (L_ref03_Unquote_1_1 R k w n a b (IntKind.wrap .i64 (c + 6)) (g ++ (toSl (toF (List.getD r10.1 0 em))))))))
 (jump w (J_ref03_Unquote_4_1 R k w n a b c d g)) := by kernel_rfl
theorem J_ref03_Unquote_4_1_eq (R : Orc) (k : Nat) (w : Bool) (n : Nat) (a : ByteArray) (b : Bool) (c d : Int) (e : List FV) : J_ref03_Unquote_4_1 R k w n a b c d e = ifB (decide (d ≥ 55296))
 (ifB (decide (d < 57344))
 (L_ref03_Unquote_1_1 R k w n a true c e)
 (jump w (J_ref03_Unquote_3_1 R k w n a b c d e)))
 (jump w (J_ref03_Unquote_3_1 R k w n a b c d e)) := by kernel_rfl
theorem J_ref03_Unquote_3_1_eq (R : Orc) (k : Nat) (w : Bool) (n : Nat) (a : ByteArray) (b : Bool) (c d : Int) (e : List FV) : J_ref03_Unquote_3_1 R k w n a b c d e = onR (R N_ref03_Put [.fz (.int .i64 d)]) fun r11 => when (List.isEmpty r11.2 && allF [.fz] r11.1) (when ((isSl (toF (List.getD r11.1 0 em))) && (List.all (toSl (toF (List.getD r11.1 0 em))) (fits 1 false))) (when (decide ((List.length e + List.length (toSl (toF (List.getD r11.1 0 em)))) * 1 ≤ roomy) && decide (List.length e + List.length (toSl (toF (List.getD r11.1 0 em))) ≤ roomy)) (L_ref03_Unquote_1_1 R k w n a b c (e ++ (toSl (toF (List.getD r11.1 0 em))))))) := by kernel_rfl
/-! keyhole/keyholelaw03.hex -/
def C_law03_hex : ACode := codeOf 18 Try.f18
def A_law03_hex : AFunc := ⟨1, [(.tmp 2, .fz)], C_law03_hex, none⟩
theorem E_law03_hex (R : Orc) (k : Nat) (w : Bool) (a : Int) : callL R k w A_law03_hex [.fz (.int .i64 a)] = when ((decide (0 ≤ (Int.tmod (IntKind.wrap .i64 (Int.tdiv a 4096)) 16))) && (decide ((Int.tmod (IntKind.wrap .i64 (Int.tdiv a 4096)) 16) < (ByteArray.size (⟨#[48, 49, 50, 51, 52, 53, 54, 55, 56, 57, 65, 66, 67, 68, 69, 70]⟩ : ByteArray) : Int)))) (when ((decide (0 ≤ (Int.tmod (IntKind.wrap .i64 (Int.tdiv a 256)) 16))) && (decide ((Int.tmod (IntKind.wrap .i64 (Int.tdiv a 256)) 16) < (ByteArray.size (⟨#[48, 49, 50, 51, 52, 53, 54, 55, 56, 57, 65, 66, 67, 68, 69, 70]⟩ : ByteArray) : Int)))) (when ((decide (0 ≤ (Int.tmod (IntKind.wrap .i64 (Int.tdiv a 16)) 16))) && (decide ((Int.tmod (IntKind.wrap .i64 (Int.tdiv a 16)) 16) < (ByteArray.size (⟨#[48, 49, 50, 51, 52, 53, 54, 55, 56, 57, 65, 66, 67, 68, 69, 70]⟩ : ByteArray) : Int)))) (when ((decide (0 ≤ (Int.tmod a 16))) && (decide ((Int.tmod a 16) < (ByteArray.size (⟨#[48, 49, 50, 51, 52, 53, 54, 55, 56, 57, 65, 66, 67, 68, 69, 70]⟩ : ByteArray) : Int)))) (when (List.all [(.int .u8 (((Array.getD (ByteArray.data (⟨#[48, 49, 50, 51, 52, 53, 54, 55, 56, 57, 65, 66, 67, 68, 69, 70]⟩ : ByteArray)) (Int.toNat (Int.tmod (IntKind.wrap .i64 (Int.tdiv a 4096)) 16)) 0).toNat : Nat) : Int)), (.int .u8 (((Array.getD (ByteArray.data (⟨#[48, 49, 50, 51, 52, 53, 54, 55, 56, 57, 65, 66, 67, 68, 69, 70]⟩ : ByteArray)) (Int.toNat (Int.tmod (IntKind.wrap .i64 (Int.tdiv a 256)) 16)) 0).toNat : Nat) : Int)), (.int .u8 (((Array.getD (ByteArray.data (⟨#[48, 49, 50, 51, 52, 53, 54, 55, 56, 57, 65, 66, 67, 68, 69, 70]⟩ : ByteArray)) (Int.toNat (Int.tmod (IntKind.wrap .i64 (Int.tdiv a 16)) 16)) 0).toNat : Nat) : Int)), (.int .u8 (((Array.getD (ByteArray.data (⟨#[48, 49, 50, 51, 52, 53, 54, 55, 56, 57, 65, 66, 67, 68, 69, 70]⟩ : ByteArray)) (Int.toNat (Int.tmod a 16)) 0).toNat : Nat) : Int))] (isInt .u8)) (some ([.fz (.str (⟨(List.map (fun e => UInt8.ofNat (toInt e).toNat) [(.int .u8 (((Array.getD (ByteArray.data (⟨#[48, 49, 50, 51, 52, 53, 54, 55, 56, 57, 65, 66, 67, 68, 69, 70]⟩ : ByteArray)) (Int.toNat (Int.tmod (IntKind.wrap .i64 (Int.tdiv a 4096)) 16)) 0).toNat : Nat) : Int)), (.int .u8 (((Array.getD (ByteArray.data (⟨#[48, 49, 50, 51, 52, 53, 54, 55, 56, 57, 65, 66, 67, 68, 69, 70]⟩ : ByteArray)) (Int.toNat (Int.tmod (IntKind.wrap .i64 (Int.tdiv a 256)) 16)) 0).toNat : Nat) : Int)), (.int .u8 (((Array.getD (ByteArray.data (⟨#[48, 49, 50, 51, 52, 53, 54, 55, 56, 57, 65, 66, 67, 68, 69, 70]⟩ : ByteArray)) (Int.toNat (Int.tmod (IntKind.wrap .i64 (Int.tdiv a 16)) 16)) 0).toNat : Nat) : Int)), (.int .u8 (((Array.getD (ByteArray.data (⟨#[48, 49, 50, 51, 52, 53, 54, 55, 56, 57, 65, 66, 67, 68, 69, 70]⟩ : ByteArray)) (Int.toNat (Int.tmod a 16)) 0).toNat : Nat) : Int))]).toArray⟩ : ByteArray))], [])))))) := by kernel_rfl
/-! keyhole/utf.quoted -/
def C_utf_quoted : ACode := codeOf 20 Try.f20
def A_utf_quoted : AFunc := ⟨1, [(.tmp 2, .fz)], C_utf_quoted, none⟩
theorem E_utf_quoted (R : Orc) (k : Nat) (w : Bool) (a : Int) : callL R k w A_utf_quoted [.fz (.int .i32 a)] = ifB (a == 34)
 (some ([.fz (.str (⟨#[92, 34]⟩ : ByteArray))], []))
 (ifB (a == 92)
 (some ([.fz (.str (⟨#[92, 92]⟩ : ByteArray))], []))
 (ifB (a == 8)
 (some ([.fz (.str (⟨#[92, 98]⟩ : ByteArray))], []))
 (ifB (a == 9)
 (some ([.fz (.str (⟨#[92, 116]⟩ : ByteArray))], []))
 (ifB (a == 10)
 (some ([.fz (.str (⟨#[92, 110]⟩ : ByteArray))], []))
 (ifB (a == 12)
 (some ([.fz (.str (⟨#[92, 102]⟩ : ByteArray))], []))
 (ifB (a == 13)
 (some ([.fz (.str (⟨#[92, 114]⟩ : ByteArray))], []))
 (ifB (decide (a < 32))
 (when (decide (0 ≤ (IntKind.wrap .i32 ((Int.fdiv a (2 ^ (min 4 (IntKind.bits .i32)))) + 1))) && decide ((IntKind.wrap .i32 ((Int.fdiv a (2 ^ (min 4 (IntKind.bits .i32)))) + 1)) ≤ (ByteArray.size (⟨#[48, 49, 50, 51, 52, 53, 54, 55, 56, 57, 97, 98, 99, 100, 101, 102]⟩ : ByteArray) : Int))) (when (decide (0 ≤ (Int.fdiv a (2 ^ (min 4 (IntKind.bits .i32))))) && decide ((Int.fdiv a (2 ^ (min 4 (IntKind.bits .i32)))) ≤ (IntKind.wrap .i32 ((Int.fdiv a (2 ^ (min 4 (IntKind.bits .i32)))) + 1)))) (when (decide (ByteArray.size (⟨#[92, 117, 48, 48]⟩ : ByteArray) + ByteArray.size (ByteArray.extract (⟨#[48, 49, 50, 51, 52, 53, 54, 55, 56, 57, 97, 98, 99, 100, 101, 102]⟩ : ByteArray) (Int.toNat (Int.fdiv a (2 ^ (min 4 (IntKind.bits .i32))))) (Int.toNat (IntKind.wrap .i32 ((Int.fdiv a (2 ^ (min 4 (IntKind.bits .i32)))) + 1)))) ≤ 2 ^ 62)) (when (decide (0 ≤ (IntKind.wrap .i32 ((IntKind.wrap .i32 ((BitVec.ofInt (IntKind.bits .i32) a &&& BitVec.ofInt (IntKind.bits .i32) 15).toNat : Nat)) + 1))) && decide ((IntKind.wrap .i32 ((IntKind.wrap .i32 ((BitVec.ofInt (IntKind.bits .i32) a &&& BitVec.ofInt (IntKind.bits .i32) 15).toNat : Nat)) + 1)) ≤ (ByteArray.size (⟨#[48, 49, 50, 51, 52, 53, 54, 55, 56, 57, 97, 98, 99, 100, 101, 102]⟩ : ByteArray) : Int))) (when (decide (0 ≤ (IntKind.wrap .i32 ((BitVec.ofInt (IntKind.bits .i32) a &&& BitVec.ofInt (IntKind.bits .i32) 15).toNat : Nat))) && decide ((IntKind.wrap .i32 ((BitVec.ofInt (IntKind.bits .i32) a &&& BitVec.ofInt (IntKind.bits .i32) 15).toNat : Nat)) ≤ (IntKind.wrap .i32 ((IntKind.wrap .i32 ((BitVec.ofInt (IntKind.bits .i32) a &&& BitVec.ofInt (IntKind.bits .i32) 15).toNat : Nat)) + 1)))) (when (decide (ByteArray.size ((⟨#[92, 117, 48, 48]⟩ : ByteArray) ++ (ByteArray.extract (⟨#[48, 49, 50, 51, 52, 53, 54, 55, 56, 57, 97, 98, 99, 100, 101, 102]⟩ : ByteArray) (Int.toNat (Int.fdiv a (2 ^ (min 4 (IntKind.bits .i32))))) (Int.toNat (IntKind.wrap .i32 ((Int.fdiv a (2 ^ (min 4 (IntKind.bits .i32)))) + 1))))) + ByteArray.size (ByteArray.extract (⟨#[48, 49, 50, 51, 52, 53, 54, 55, 56, 57, 97, 98, 99, 100, 101, 102]⟩ : ByteArray) (Int.toNat (IntKind.wrap .i32 ((BitVec.ofInt (IntKind.bits .i32) a &&& BitVec.ofInt (IntKind.bits .i32) 15).toNat : Nat))) (Int.toNat (IntKind.wrap .i32 ((IntKind.wrap .i32 ((BitVec.ofInt (IntKind.bits .i32) a &&& BitVec.ofInt (IntKind.bits .i32) 15).toNat : Nat)) + 1)))) ≤ 2 ^ 62)) (some ([.fz (.str (((⟨#[92, 117, 48, 48]⟩ : ByteArray) ++ (ByteArray.extract (⟨#[48, 49, 50, 51, 52, 53, 54, 55, 56, 57, 97, 98, 99, 100, 101, 102]⟩ : ByteArray) (Int.toNat (Int.fdiv a (2 ^ (min 4 (IntKind.bits .i32))))) (Int.toNat (IntKind.wrap .i32 ((Int.fdiv a (2 ^ (min 4 (IntKind.bits .i32)))) + 1))))) ++ (ByteArray.extract (⟨#[48, 49, 50, 51, 52, 53, 54, 55, 56, 57, 97, 98, 99, 100, 101, 102]⟩ : ByteArray) (Int.toNat (IntKind.wrap .i32 ((BitVec.ofInt (IntKind.bits .i32) a &&& BitVec.ofInt (IntKind.bits .i32) 15).toNat : Nat))) (Int.toNat (IntKind.wrap .i32 ((IntKind.wrap .i32 ((BitVec.ofInt (IntKind.bits .i32) a &&& BitVec.ofInt (IntKind.bits .i32) 15).toNat : Nat)) + 1))))))], []))))))))
 (some ([.fz (.str (Utf8.encode a))], []))))))))) := by kernel_rfl
/-! keyhole/utf.size -/
def C_utf_size : ACode := codeOf 22 Try.f22
def A_utf_size_j1 : ACode := C_utf_size.at [1, 1, 0, 0, 1, 1, 1, 0, 1, 0, 1, 0, 1, 1, 0]
def A_utf_size_j2 : ACode := C_utf_size.at [1, 1, 0, 0, 1, 1, 1, 0, 1, 0, 1, 0]
def A_utf_size_j3 : ACode := C_utf_size.at [1, 1, 0, 0, 1, 1, 1, 0, 1, 1, 0, 1, 0, 1, 0, 1, 1, 0]
def A_utf_size_j4 : ACode := C_utf_size.at [1, 1, 0, 0, 1, 1, 1, 0, 1, 1, 0, 1, 0, 1, 0]
def A_utf_size_s5 : ACode := C_utf_size.at [1, 1, 0, 0, 1, 1, 1, 0, 1, 1, 0, 1, 1]
def A_utf_size_j6 : ACode := C_utf_size.at [1, 1, 0, 0, 1, 1, 1, 0, 1, 1, 0]
def A_utf_size_s7 : ACode := C_utf_size.at [1, 1, 0, 0, 1, 1, 1, 0, 1, 1]
def A_utf_size_j8 : ACode := C_utf_size.at [1, 1, 0, 0, 1, 1, 1, 0]
def A_utf_size_s9 : ACode := C_utf_size.at [1, 1, 1]
def A_utf_size : AFunc := ⟨1, [(.tmp 2, .fz)], C_utf_size, none⟩
def J_utf_size_8_0 (R : Orc) (k : Nat) (w : Bool) (a : ByteArray) (b : Int) (c : Bool) := execL R k w [] A_utf_size_j8 Ans ⟨[(0, .fz (.str a)), (3, .fz (.int .u8 b)), (9, .fz (.bool c))], [(4095, .dead)]⟩ (kBlk 0 (kSeq R k w [] A_utf_size_s9 (kFin R [(.tmp 2, .fz)] [])))
def J_utf_size_2_0 (R : Orc) (k : Nat) (w : Bool) (a : ByteArray) (b : Int) (c : Bool) := execL R k w [] A_utf_size_j2 Ans ⟨[(0, .fz (.str a)), (3, .fz (.int .u8 b)), (20, .fz (.bool c))], [(4095, .dead)]⟩ (kSeq R k w [] A_utf_size_s7 (kBlk 0 (kSeq R k w [] A_utf_size_s9 (kFin R [(.tmp 2, .fz)] []))))
def J_utf_size_6_0 (R : Orc) (k : Nat) (w : Bool) (a : ByteArray) (b : Int) (c : Bool) := execL R k w [] A_utf_size_j6 Ans ⟨[(0, .fz (.str a)), (3, .fz (.int .u8 b)), (20, .fz (.bool c))], [(4095, .dead)]⟩ (kBlk 0 (kSeq R k w [] A_utf_size_s9 (kFin R [(.tmp 2, .fz)] [])))
def J_utf_size_1_0 (R : Orc) (k : Nat) (w : Bool) (a : ByteArray) (b : Int) (c : Bool) := execL R k w [] A_utf_size_j1 Ans ⟨[(0, .fz (.str a)), (3, .fz (.int .u8 b)), (20, .fz (.bool c))], [(4095, .dead)]⟩ (kSeq R k w [] A_utf_size_s7 (kBlk 0 (kSeq R k w [] A_utf_size_s9 (kFin R [(.tmp 2, .fz)] []))))
def J_utf_size_4_0 (R : Orc) (k : Nat) (w : Bool) (a : ByteArray) (b : Int) (c : Bool) := execL R k w [] A_utf_size_j4 Ans ⟨[(0, .fz (.str a)), (3, .fz (.int .u8 b)), (47, .fz (.bool c))], [(4095, .dead)]⟩ (kSeq R k w [] A_utf_size_s5 (kBlk 0 (kSeq R k w [] A_utf_size_s9 (kFin R [(.tmp 2, .fz)] []))))
def J_utf_size_3_0 (R : Orc) (k : Nat) (w : Bool) (a : ByteArray) (b : Int) (c : Bool) := execL R k w [] A_utf_size_j3 Ans ⟨[(0, .fz (.str a)), (3, .fz (.int .u8 b)), (47, .fz (.bool c))], [(4095, .dead)]⟩ (kSeq R k w [] A_utf_size_s5 (kBlk 0 (kSeq R k w [] A_utf_size_s9 (kFin R [(.tmp 2, .fz)] []))))
theorem E_utf_size (R : Orc) (k : Nat) (w : Bool) (a : ByteArray) : callL R k w A_utf_size [.fz (.str a)] = when (decide (0 < (ByteArray.size a : Int))) (ifB (decide ((((Array.getD (ByteArray.data a) 0 0).toNat : Nat) : Int) < 128))
 (some ([.fz (.int .i64 1)], []))
 (ifB (decide ((((Array.getD (ByteArray.data a) 0 0).toNat : Nat) : Int) ≥ 194))
 (ifB (decide ((((Array.getD (ByteArray.data a) 0 0).toNat : Nat) : Int) ≤ 223))
 (onR (R N_utf_tail [.fz (.str a), .fz (.int .i64 1), .fz (.int .u8 128), .fz (.int .u8 191)]) fun r0 => when (List.isEmpty r0.2 && allF [.fz] r0.1) (when (isBool (toF (List.getD r0.1 0 em))) (jump w (J_utf_size_8_0 R k w a (((Array.getD (ByteArray.data a) 0 0).toNat : Nat) : Int) (toBool (toF (List.getD r0.1 0 em)))))))
 (jump w (J_utf_size_8_0 R k w a (((Array.getD (ByteArray.data a) 0 0).toNat : Nat) : Int) false)))
 (jump w (J_utf_size_8_0 R k w a (((Array.getD (ByteArray.data a) 0 0).toNat : Nat) : Int) false)))) := by kernel_rfl
theorem J_utf_size_8_0_eq (R : Orc) (k : Nat) (w : Bool) (a : ByteArray) (b : Int) (c : Bool) : J_utf_size_8_0 R k w a b c = ifB c
 (some ([.fz (.int .i64 2)], []))
 (ifB (b == 224)
 (onR (R N_utf_tail [.fz (.str a), .fz (.int .i64 2), .fz (.int .u8 160), .fz (.int .u8 191)]) fun r1 => when (List.isEmpty r1.2 && allF [.fz] r1.1) (when (isBool (toF (List.getD r1.1 0 em))) (jump w (J_utf_size_2_0 R k w a b (toBool (toF (List.getD r1.1 0 em)))))))
 (jump w (J_utf_size_2_0 R k w a b false))) := by kernel_rfl
theorem J_utf_size_2_0_eq (R : Orc) (k : Nat) (w : Bool) (a : ByteArray) (b : Int) (c : Bool) : J_utf_size_2_0 R k w a b c = ifB c
 (jump w (J_utf_size_6_0 R k w a b true))
 (ifB (decide (b ≥ 225))
 (ifB (decide (b ≤ 239))
 (ifB (b != 237)
 (onR (R N_utf_tail [.fz (.str a), .fz (.int .i64 2), .fz (.int .u8 128), .fz (.int .u8 191)]) fun r2 => when (List.isEmpty r2.2 && allF [.fz] r2.1) (when (isBool (toF (List.getD r2.1 0 em))) (jump w (J_utf_size_1_0 R k w a b (toBool (toF (List.getD r2.1 0 em)))))))
 (jump w (J_utf_size_1_0 R k w a b false)))
 (jump w (J_utf_size_1_0 R k w a b false)))
 (jump w (J_utf_size_1_0 R k w a b false))) := by kernel_rfl
theorem J_utf_size_6_0_eq (R : Orc) (k : Nat) (w : Bool) (a : ByteArray) (b : Int) (c : Bool) : J_utf_size_6_0 R k w a b c = ifB c
 (some ([.fz (.int .i64 3)], []))
 (ifB (b == 240)
 (onR (R N_utf_tail [.fz (.str a), .fz (.int .i64 3), .fz (.int .u8 144), .fz (.int .u8 191)]) fun r3 => when (List.isEmpty r3.2 && allF [.fz] r3.1) (when (isBool (toF (List.getD r3.1 0 em))) (jump w (J_utf_size_4_0 R k w a b (toBool (toF (List.getD r3.1 0 em)))))))
 (jump w (J_utf_size_4_0 R k w a b false))) := by kernel_rfl
theorem J_utf_size_1_0_eq (R : Orc) (k : Nat) (w : Bool) (a : ByteArray) (b : Int) (c : Bool) : J_utf_size_1_0 R k w a b c = ifB c
 (jump w (J_utf_size_6_0 R k w a b true))
 (ifB (b == 237)
 (onR (R N_utf_tail [.fz (.str a), .fz (.int .i64 2), .fz (.int .u8 128), .fz (.int .u8 159)]) fun r4 => when (List.isEmpty r4.2 && allF [.fz] r4.1) (when (isBool (toF (List.getD r4.1 0 em))) (jump w (J_utf_size_6_0 R k w a b (toBool (toF (List.getD r4.1 0 em)))))))
 (jump w (J_utf_size_6_0 R k w a b false))) := by kernel_rfl
theorem J_utf_size_4_0_eq (R : Orc) (k : Nat) (w : Bool) (a : ByteArray) (b : Int) (c : Bool) : J_utf_size_4_0 R k w a b c = ifB c
 (some ([.fz (.int .i64 4)], []))
 (ifB (decide (b ≥ 241))
 (ifB (decide (b ≤ 243))
 (onR (R N_utf_tail [.fz (.str a), .fz (.int .i64 3), .fz (.int .u8 128), .fz (.int .u8 191)]) fun r5 => when (List.isEmpty r5.2 && allF [.fz] r5.1) (when (isBool (toF (List.getD r5.1 0 em))) (jump w (J_utf_size_3_0 R k w a b (toBool (toF (List.getD r5.1 0 em)))))))
 (jump w (J_utf_size_3_0 R k w a b false)))
 (jump w (J_utf_size_3_0 R k w a b false))) := by kernel_rfl
theorem J_utf_size_3_0_eq (R : Orc) (k : Nat) (w : Bool) (a : ByteArray) (b : Int) (c : Bool) : J_utf_size_3_0 R k w a b c = ifB c
 (some ([.fz (.int .i64 4)], []))
 (ifB (b == 244)
 (onR (R N_utf_tail [.fz (.str a), .fz (.int .i64 3), .fz (.int .u8 128), .fz (.int .u8 143)]) fun r6 => when (List.isEmpty r6.2 && allF [.fz] r6.1) (when (isBool (toF (List.getD r6.1 0 em))) (ifB (toBool (toF (List.getD r6.1 0 em)))
 (some ([.fz (.int .i64 4)], []))
 (some ([.fz (.int .i64 0)], [])))))
 (some ([.fz (.int .i64 0)], []))) := by kernel_rfl
/-! keyhole/keyholeref03.simple -/
def C_ref03_simple : ACode := codeOf 24 Try.f24
def A_ref03_simple_j1 : ACode := C_ref03_simple.at [1, 0, 1, 0, 1, 0]
def A_ref03_simple_s2 : ACode := C_ref03_simple.at [1, 1]
def A_ref03_simple : AFunc := ⟨1, [(.tmp 2, .fz)], C_ref03_simple, none⟩
def J_ref03_simple_1_0 (R : Orc) (k : Nat) (w : Bool) (a b : Int) (c : Bool) := execL R k w [] A_ref03_simple_j1 Ans ⟨[(0, .fz (.int .u8 a)), (3, .fz (.int .u8 b)), (4, .fz (.bool c))], [(4095, .dead)]⟩ (kBlk 0 (kSeq R k w [] A_ref03_simple_s2 (kFin R [(.tmp 2, .fz)] [])))
theorem E_ref03_simple (R : Orc) (k : Nat) (w : Bool) (a : Int) : callL R k w A_ref03_simple [.fz (.int .u8 a)] = ifB (a == 34)
 (jump w (J_ref03_simple_1_0 R k w a a true))
 (ifB (a == 92)
 (jump w (J_ref03_simple_1_0 R k w a a true))
 (jump w (J_ref03_simple_1_0 R k w a a (a == 47)))) := by kernel_rfl
theorem J_ref03_simple_1_0_eq (R : Orc) (k : Nat) (w : Bool) (a b : Int) (c : Bool) : J_ref03_simple_1_0 R k w a b c = ifB c
 (some ([.fz (.int .i64 (IntKind.wrap .i64 a))], []))
 (ifB (b == 98)
 (some ([.fz (.int .i64 8)], []))
 (ifB (b == 102)
 (some ([.fz (.int .i64 12)], []))
 (ifB (b == 110)
 (some ([.fz (.int .i64 10)], []))
 (ifB (b == 114)
 (some ([.fz (.int .i64 13)], []))
 (ifB (b == 116)
 (some ([.fz (.int .i64 9)], []))
 (some ([.fz (.int .i64 (-1))], []))))))) := by kernel_rfl
/-! keyhole/keyholeref03.four -/
def C_ref03_four : ACode := codeOf 25 Try.f25
def A_ref03_four_j1 : ACode := C_ref03_four.at [1, 1, 0, 1, 0, 0, 1, 0, 0, 1, 0]
def A_ref03_four_s2 : ACode := C_ref03_four.at [1, 1, 0, 1, 0, 0, 1, 1]
def A_ref03_four_b1 : ACode := C_ref03_four.at [1, 1, 0, 1, 0, 0]
def A_ref03_four_s3 : ACode := C_ref03_four.at [1, 1, 1]
def A_ref03_four : AFunc := ⟨2, [(.tmp 4, .fz)], C_ref03_four, none⟩
def K_ref03_four_1 (R : Orc) (k : Nat) (w : Bool) : AExit → St → Option Ans := (kBlk 0 (kSeq R k w [] A_ref03_four_s3 (kFin R [(.tmp 4, .fz)] [])))
def L_ref03_four_1_0 (R : Orc) (k : Nat) (w : Bool) (n : Nat) (a : ByteArray) (b c d : Int) := loopL R k w [] [0, 1, 5, 6] [4, 5] A_ref03_four_b1 n ⟨[(0, .fz (.str a)), (1, .fz (.int .i64 b)), (5, .fz (.int .i64 c)), (6, .fz (.int .i64 d))], [(4095, .dead)]⟩
def X_ref03_four_1_0 (a b : Int) : St := ⟨[(4, .fz (.int .i64 a)), (5, .fz (.int .i64 b))], [(4095, .dead)]⟩
def J_ref03_four_1_0 (R : Orc) (k : Nat) (w : Bool) (n : Nat) (a : ByteArray) (b c d : Int) := execL R k w [] A_ref03_four_j1 (AExit × St) ⟨[(0, .fz (.str a)), (1, .fz (.int .i64 b)), (5, .fz (.int .i64 c)), (6, .fz (.int .i64 d))], [(4095, .dead)]⟩ (kBlk 1 (kSeq R k w [] A_ref03_four_s2 (kLoop R k w [] [0, 1, 5, 6] [4, 5] A_ref03_four_b1 n)))
def X_ref03_four_1_1 (a : Int) : St := ⟨[(5, .fz (.int .i64 a))], [(4095, .dead)]⟩
theorem E_ref03_four (R : Orc) (k : Nat) (w : Bool) (a : ByteArray) (b : Int) : callL R k w A_ref03_four [.fz (.str a), .fz (.int .i64 b)] = onL (L_ref03_four_1_0 R k w k a b 0 0) (K_ref03_four_1 R k w) := by kernel_rfl
theorem L_ref03_four_1_0_eq (R : Orc) (k : Nat) (w : Bool) (n : Nat) (a : ByteArray) (b c d : Int) : L_ref03_four_1_0 R k w (n + 1) a b c d = ifB (decide (d < 4))
 (ifB (decide ((IntKind.wrap .i64 (b + d)) ≥ (ByteArray.size a : Int)))
 (some (.ret, X_ref03_four_1_0 (-1) c))
 (when ((decide (0 ≤ (IntKind.wrap .i64 (b + d)))) && (decide ((IntKind.wrap .i64 (b + d)) < (ByteArray.size a : Int)))) (onR (R N_ref03_digit [.fz (.int .u8 (((Array.getD (ByteArray.data a) (Int.toNat (IntKind.wrap .i64 (b + d))) 0).toNat : Nat) : Int))]) fun r0 => when (List.isEmpty r0.2 && allF [.fz] r0.1) (when (isInt .i64 (toF (List.getD r0.1 0 em))) (ifB (decide ((toInt (toF (List.getD r0.1 0 em))) < 0))
 (some (.ret, X_ref03_four_1_0 (-1) c))
 (jump w (J_ref03_four_1_0 R k w n a b c d)))))))
 (some ((.exit 0), X_ref03_four_1_1 c)) := by kernel_rfl
theorem X_ref03_four_1_0_eq (R : Orc) (k : Nat) (w : Bool) (a b : Int) : K_ref03_four_1 R k w .ret (X_ref03_four_1_0 a b) = some ([.fz (.int .i64 a)], []) := by kernel_rfl
theorem J_ref03_four_1_0_eq (R : Orc) (k : Nat) (w : Bool) (n : Nat) (a : ByteArray) (b c d : Int) : J_ref03_four_1_0 R k w n a b c d = when ((decide (0 ≤ (IntKind.wrap .i64 (b + d)))) && (decide ((IntKind.wrap .i64 (b + d)) < (ByteArray.size a : Int)))) (onR (R N_ref03_digit [.fz (.int .u8 (((Array.getD (ByteArray.data a) (Int.toNat (IntKind.wrap .i64 (b + d))) 0).toNat : Nat) : Int))]) fun r1 => when (List.isEmpty r1.2 && allF [.fz] r1.1) (when (isInt .i64 (toF (List.getD r1.1 0 em))) (L_ref03_four_1_0 R k w n a b (IntKind.wrap .i64 ((IntKind.wrap .i64 (16 * c)) + (toInt (toF (List.getD r1.1 0 em))))) (IntKind.wrap .i64 (d + 1))))) := by kernel_rfl
theorem X_ref03_four_1_1_eq (R : Orc) (k : Nat) (w : Bool) (a : Int) : K_ref03_four_1 R k w (.exit 0) (X_ref03_four_1_1 a) = some ([.fz (.int .i64 a)], []) := by kernel_rfl
/-! keyhole/utf.tail -/
def C_utf_tail : ACode := codeOf 27 Try.f27
def A_utf_tail_b1 : ACode := C_utf_tail.at [1, 1, 0, 0, 1, 0, 0]
def A_utf_tail_s1 : ACode := C_utf_tail.at [1, 1, 0, 1]
def A_utf_tail_j2 : ACode := C_utf_tail.at [1, 1, 0]
def A_utf_tail : AFunc := ⟨4, [(.tmp 8, .fz)], C_utf_tail, none⟩
def J_utf_tail_2_0 (R : Orc) (k : Nat) (w : Bool) (a : ByteArray) (b : Int) := execL R k w [] A_utf_tail_j2 Ans ⟨[(0, .fz (.str a)), (1, .fz (.int .i64 b))], [(4095, .dead)]⟩ (kFin R [(.tmp 8, .fz)] [])
def K_utf_tail_1 (R : Orc) (k : Nat) (w : Bool) : AExit → St → Option Ans := (kBlk 0 (kSeq R k w [] A_utf_tail_s1 (kFin R [(.tmp 8, .fz)] [])))
def L_utf_tail_1_0 (R : Orc) (k : Nat) (w : Bool) (n : Nat) (a : ByteArray) (b c : Int) := loopL R k w [] [0, 1, 9] [8] A_utf_tail_b1 n ⟨[(0, .fz (.str a)), (1, .fz (.int .i64 b)), (9, .fz (.int .i64 c))], [(4095, .dead)]⟩
def X_utf_tail_1_0 (a : Bool) : St := ⟨[(8, .fz (.bool a))], [(4095, .dead)]⟩
def X_utf_tail_1_1 : St := ⟨[], [(4095, .dead)]⟩
theorem E_utf_tail (R : Orc) (k : Nat) (w : Bool) (a : ByteArray) (b c d : Int) : callL R k w A_utf_tail [.fz (.str a), .fz (.int .i64 b), .fz (.int .u8 c), .fz (.int .u8 d)] = ifB (decide ((ByteArray.size a : Int) ≤ b))
 (some ([.fz (.bool false)], []))
 (when (decide (1 < (ByteArray.size a : Int))) (ifB (decide ((((Array.getD (ByteArray.data a) 1 0).toNat : Nat) : Int) < c))
 (some ([.fz (.bool false)], []))
 (when (decide (1 < (ByteArray.size a : Int))) (ifB (decide ((((Array.getD (ByteArray.data a) 1 0).toNat : Nat) : Int) > d))
 (some ([.fz (.bool false)], []))
 (jump w (J_utf_tail_2_0 R k w a b)))))) := by kernel_rfl
theorem J_utf_tail_2_0_eq (R : Orc) (k : Nat) (w : Bool) (a : ByteArray) (b : Int) : J_utf_tail_2_0 R k w a b = onL (L_utf_tail_1_0 R k w k a b 2) (K_utf_tail_1 R k w) := by kernel_rfl
theorem L_utf_tail_1_0_eq (R : Orc) (k : Nat) (w : Bool) (n : Nat) (a : ByteArray) (b c : Int) : L_utf_tail_1_0 R k w (n + 1) a b c = ifB (decide (c ≤ b))
 (when ((decide (0 ≤ c)) && (decide (c < (ByteArray.size a : Int)))) (ifB (decide ((((Array.getD (ByteArray.data a) (Int.toNat c) 0).toNat : Nat) : Int) < 128))
 (some (.ret, X_utf_tail_1_0 false))
 (when ((decide (0 ≤ c)) && (decide (c < (ByteArray.size a : Int)))) (ifB (decide ((((Array.getD (ByteArray.data a) (Int.toNat c) 0).toNat : Nat) : Int) > 191))
 (some (.ret, X_utf_tail_1_0 false))
 (L_utf_tail_1_0 R k w n a b (IntKind.wrap .i64 (c + 1)))))))
 (some ((.exit 0), X_utf_tail_1_1)) := by kernel_rfl
theorem X_utf_tail_1_0_eq (R : Orc) (k : Nat) (w a : Bool) : K_utf_tail_1 R k w .ret (X_utf_tail_1_0 a) = some ([.fz (.bool a)], []) := by kernel_rfl
theorem X_utf_tail_1_1_eq (R : Orc) (k : Nat) (w : Bool) : K_utf_tail_1 R k w (.exit 0) (X_utf_tail_1_1) = some ([.fz (.bool true)], []) := by kernel_rfl
/-! keyhole/keyholeref03.digit -/
def C_ref03_digit : ACode := codeOf 30 Try.f30
def A_ref03_digit_j1 : ACode := C_ref03_digit.at [1, 0, 1, 0]
def A_ref03_digit_j2 : ACode := C_ref03_digit.at [1, 1, 0, 0, 1, 0]
def A_ref03_digit_j3 : ACode := C_ref03_digit.at [1, 1, 0, 1, 0, 0, 1, 0]
def A_ref03_digit_s4 : ACode := C_ref03_digit.at [1, 1, 0, 1, 0, 1]
def A_ref03_digit_j5 : ACode := C_ref03_digit.at [1, 1, 0, 1, 0]
def A_ref03_digit_s6 : ACode := C_ref03_digit.at [1, 1, 0, 1]
def A_ref03_digit_j7 : ACode := C_ref03_digit.at [1, 1, 0]
def A_ref03_digit_s8 : ACode := C_ref03_digit.at [1, 1]
def A_ref03_digit : AFunc := ⟨1, [(.tmp 2, .fz)], C_ref03_digit, none⟩
def J_ref03_digit_1_0 (R : Orc) (k : Nat) (w : Bool) (a : Int) (b : Bool) := execL R k w [] A_ref03_digit_j1 Ans ⟨[(0, .fz (.int .u8 a)), (8, .fz (.bool b))], [(4095, .dead)]⟩ (kSeq R k w [] A_ref03_digit_s8 (kFin R [(.tmp 2, .fz)] []))
def J_ref03_digit_7_0 (R : Orc) (k : Nat) (w : Bool) (a : Int) := execL R k w [] A_ref03_digit_j7 Ans ⟨[(0, .fz (.int .u8 a))], [(4095, .dead)]⟩ (kFin R [(.tmp 2, .fz)] [])
def J_ref03_digit_2_0 (R : Orc) (k : Nat) (w : Bool) (a : Int) (b : Bool) := execL R k w [] A_ref03_digit_j2 Ans ⟨[(0, .fz (.int .u8 a)), (17, .fz (.bool b))], [(4095, .dead)]⟩ (kSeq R k w [] A_ref03_digit_s6 (kFin R [(.tmp 2, .fz)] []))
def J_ref03_digit_5_0 (R : Orc) (k : Nat) (w : Bool) (a : Int) := execL R k w [] A_ref03_digit_j5 Ans ⟨[(0, .fz (.int .u8 a))], [(4095, .dead)]⟩ (kFin R [(.tmp 2, .fz)] [])
def J_ref03_digit_3_0 (R : Orc) (k : Nat) (w : Bool) (a : Int) (b : Bool) := execL R k w [] A_ref03_digit_j3 Ans ⟨[(0, .fz (.int .u8 a)), (26, .fz (.bool b))], [(4095, .dead)]⟩ (kSeq R k w [] A_ref03_digit_s4 (kFin R [(.tmp 2, .fz)] []))
theorem E_ref03_digit (R : Orc) (k : Nat) (w : Bool) (a : Int) : callL R k w A_ref03_digit [.fz (.int .u8 a)] = ifB (decide (a ≥ 48))
 (jump w (J_ref03_digit_1_0 R k w a (decide (a ≤ 57))))
 (jump w (J_ref03_digit_1_0 R k w a false)) := by kernel_rfl
theorem J_ref03_digit_1_0_eq (R : Orc) (k : Nat) (w : Bool) (a : Int) (b : Bool) : J_ref03_digit_1_0 R k w a b = ifB b
 (some ([.fz (.int .i64 (IntKind.wrap .i64 ((IntKind.wrap .i64 a) - 48)))], []))
 (jump w (J_ref03_digit_7_0 R k w a)) := by kernel_rfl
theorem J_ref03_digit_7_0_eq (R : Orc) (k : Nat) (w : Bool) (a : Int) : J_ref03_digit_7_0 R k w a = ifB (decide (a ≥ 97))
 (jump w (J_ref03_digit_2_0 R k w a (decide (a ≤ 102))))
 (jump w (J_ref03_digit_2_0 R k w a false)) := by kernel_rfl
theorem J_ref03_digit_2_0_eq (R : Orc) (k : Nat) (w : Bool) (a : Int) (b : Bool) : J_ref03_digit_2_0 R k w a b = ifB b
 (some ([.fz (.int .i64 (IntKind.wrap .i64 ((IntKind.wrap .i64 a) - 87)))], []))
 (jump w (J_ref03_digit_5_0 R k w a)) := by kernel_rfl
theorem J_ref03_digit_5_0_eq (R : Orc) (k : Nat) (w : Bool) (a : Int) : J_ref03_digit_5_0 R k w a = ifB (decide (a ≥ 65))
 (jump w (J_ref03_digit_3_0 R k w a (decide (a ≤ 70))))
 (jump w (J_ref03_digit_3_0 R k w a false)) := by kernel_rfl
theorem J_ref03_digit_3_0_eq (R : Orc) (k : Nat) (w : Bool) (a : Int) (b : Bool) : J_ref03_digit_3_0 R k w a b = ifB b
 (some ([.fz (.int .i64 (IntKind.wrap .i64 ((IntKind.wrap .i64 a) - 55)))], []))
 (some ([.fz (.int .i64 (-1))], [])) := by kernel_rfl
end
end Go.Ab
