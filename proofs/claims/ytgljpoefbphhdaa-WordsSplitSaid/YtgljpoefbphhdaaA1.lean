-- Written by a program of the session, out of the translation. Lean checks it.
import Derived.Test.YtgljpoefbphhdaaA0
namespace Go.Ab
open Go.Proofs FV TV
set_option linter.unusedVariables false
set_option maxRecDepth 100000
noncomputable section
/-! keyhole/keyholelaw08.WordsSplit -/
def C_law08_WordsSplit : ACode := codeOf 3 Try.f3
def A_law08_WordsSplit_j1 : ACode := C_law08_WordsSplit.at [1, 1, 0, 1, 0, 1, 0, 1, 1, 0, 0, 1, 0]
def A_law08_WordsSplit_b1 : ACode := C_law08_WordsSplit.at [1, 1, 0, 1, 0, 1, 0, 1, 1, 0, 0]
def A_law08_WordsSplit_b2 : ACode := C_law08_WordsSplit.at [1, 1, 0, 1, 0, 1, 1, 1, 0, 1, 0, 0]
def A_law08_WordsSplit_s2 : ACode := C_law08_WordsSplit.at [1, 1, 0, 1, 0, 1, 1, 1, 1]
def A_law08_WordsSplit_b3 : ACode := C_law08_WordsSplit.at [1, 1, 0, 1, 1, 0, 1, 1, 1, 0, 0, 1, 0, 0]
def A_law08_WordsSplit_s3 : ACode := C_law08_WordsSplit.at [1, 1, 0, 1, 1, 0, 1, 1, 1, 0, 1]
def A_law08_WordsSplit_j4 : ACode := C_law08_WordsSplit.at [1, 1, 0, 1, 1, 0, 1, 1, 1, 0]
def A_law08_WordsSplit_j5 : ACode := C_law08_WordsSplit.at [1, 1, 0, 1, 1, 0]
def A_law08_WordsSplit_s6 : ACode := C_law08_WordsSplit.at [1, 1, 0, 1, 1]
def A_law08_WordsSplit_j7 : ACode := C_law08_WordsSplit.at [1, 1, 0]
def A_law08_WordsSplit : AFunc := ⟨2, [(.tmp 4, .fz)], C_law08_WordsSplit, none⟩
def J_law08_WordsSplit_7_0 (R : Orc) (k : Nat) (w : Bool) (a b : ByteArray) := execL R k w [] A_law08_WordsSplit_j7 Ans ⟨[(0, .fz (.str a)), (1, .fz (.str b))], [(4095, .dead)]⟩ (kFin R [(.tmp 4, .fz)] [])
def K_law08_WordsSplit_1 (R : Orc) (k : Nat) (w : Bool) : AExit → St → Option Ans := (kBlk 0 (kSeq R k w [] A_law08_WordsSplit_s6 (kFin R [(.tmp 4, .fz)] [])))
def L_law08_WordsSplit_1_0 (R : Orc) (k : Nat) (w : Bool) (n : Nat) (a b : ByteArray) (c : FV) (d : Bool) (e : Int) := loopL R k w [] [0, 1, 5, 6, 7, 8] [0, 1, 5] A_law08_WordsSplit_b1 n ⟨[(0, .fz (.str a)), (1, .fz (.str b)), (5, .nils), (6, .fz c), (7, .fz (.bool d)), (8, .fz (.int .i64 e))], [(4095, .dead)]⟩
def K_law08_WordsSplit_2 (R : Orc) (k : Nat) (w : Bool) : AExit → St → Option Ans := (kBlk 2 (kSeq R k w [] A_law08_WordsSplit_s2 (kSeq R k w [] A_law08_WordsSplit_s6 (kFin R [(.tmp 4, .fz)] []))))
def L_law08_WordsSplit_2_0 (R : Orc) (k : Nat) (w : Bool) (n : Nat) (a b : ByteArray) (c d : Int) := loopL R k w [] [0, 1, 5, 9, 10] [0, 1, 5, 9] A_law08_WordsSplit_b2 n ⟨[(0, .fz (.str a)), (1, .fz (.str b)), (5, .nils), (9, .fz (.int .i64 c)), (10, .fz (.int .i64 d))], [(4095, .dead)]⟩
def J_law08_WordsSplit_1_0 (R : Orc) (k : Nat) (w : Bool) (n : Nat) (a b : ByteArray) (c : FV) (d : Bool) (e : Int) := execL R k w [] A_law08_WordsSplit_j1 (AExit × St) ⟨[(0, .fz (.str a)), (1, .fz (.str b)), (5, .nils), (6, .fz c), (7, .fz (.bool d)), (8, .fz (.int .i64 e))], [(4095, .dead)]⟩ (kLoop R k w [] [0, 1, 5, 6, 7, 8] [0, 1, 5] A_law08_WordsSplit_b1 n)
def X_law08_WordsSplit_1_0 (a b : ByteArray) : St := ⟨[(0, .fz (.str a)), (1, .fz (.str b)), (5, .nils)], [(4095, .dead)]⟩
def L_law08_WordsSplit_2_1 (R : Orc) (k : Nat) (w : Bool) (n : Nat) (a b : ByteArray) (c d : Int) (e : List FV) := loopL R k w [] [0, 1, 5, 9, 10] [0, 1, 5, 9] A_law08_WordsSplit_b2 n ⟨[(0, .fz (.str a)), (1, .fz (.str b)), (5, .rw 4096), (9, .fz (.int .i64 c)), (10, .fz (.int .i64 d))], [(4095, .dead), (4096, .row 1 false e)]⟩
def X_law08_WordsSplit_2_0 (a b : ByteArray) (c : Int) : St := ⟨[(0, .fz (.str a)), (1, .fz (.str b)), (5, .nils), (9, .fz (.int .i64 c))], [(4095, .dead)]⟩
def L_law08_WordsSplit_1_1 (R : Orc) (k : Nat) (w : Bool) (n : Nat) (a b : ByteArray) (c : FV) (d : Bool) (e : Int) (f : List FV) := loopL R k w [] [0, 1, 5, 6, 7, 8] [0, 1, 5] A_law08_WordsSplit_b1 n ⟨[(0, .fz (.str a)), (1, .fz (.str b)), (5, .rw 4096), (6, .fz c), (7, .fz (.bool d)), (8, .fz (.int .i64 e))], [(4095, .dead), (4096, .row 1 false f)]⟩
def J_law08_WordsSplit_5_0 (R : Orc) (k : Nat) (w : Bool) (a b : ByteArray) := execL R k w [] A_law08_WordsSplit_j5 Ans ⟨[(0, .fz (.str a)), (1, .fz (.str b)), (5, .nils)], [(4095, .dead)]⟩ (kFin R [(.tmp 4, .fz)] [])
def X_law08_WordsSplit_2_1 (a b : ByteArray) (c : Int) (d : List FV) : St := ⟨[(0, .fz (.str a)), (1, .fz (.str b)), (5, .rw 4096), (9, .fz (.int .i64 c))], [(4095, .dead), (4096, .row 1 false d)]⟩
def J_law08_WordsSplit_5_1 (R : Orc) (k : Nat) (w : Bool) (a b : ByteArray) (c : List FV) := execL R k w [] A_law08_WordsSplit_j5 Ans ⟨[(0, .fz (.str a)), (1, .fz (.str b)), (5, .rw 4096)], [(4095, .dead), (4096, .row 1 false c)]⟩ (kFin R [(.tmp 4, .fz)] [])
def J_law08_WordsSplit_1_1 (R : Orc) (k : Nat) (w : Bool) (n : Nat) (a b : ByteArray) (c : FV) (d : Bool) (e : Int) (f : List FV) := execL R k w [] A_law08_WordsSplit_j1 (AExit × St) ⟨[(0, .fz (.str a)), (1, .fz (.str b)), (5, .rw 4096), (6, .fz c), (7, .fz (.bool d)), (8, .fz (.int .i64 e))], [(4095, .dead), (4096, .row 1 false f)]⟩ (kLoop R k w [] [0, 1, 5, 6, 7, 8] [0, 1, 5] A_law08_WordsSplit_b1 n)
def X_law08_WordsSplit_1_1 (a b : ByteArray) (c : List FV) : St := ⟨[(0, .fz (.str a)), (1, .fz (.str b)), (5, .rw 4096)], [(4095, .dead), (4096, .row 1 false c)]⟩
def J_law08_WordsSplit_4_0 (R : Orc) (k : Nat) (w : Bool) (a : FV) := execL R k w [] A_law08_WordsSplit_j4 Ans ⟨[(5, .nils), (11, .fz a)], [(4095, .dead)]⟩ (kFin R [(.tmp 4, .fz)] [])
def J_law08_WordsSplit_4_1 (R : Orc) (k : Nat) (w : Bool) (a : FV) (b : List FV) := execL R k w [] A_law08_WordsSplit_j4 Ans ⟨[(5, .rw 4096), (11, .fz a)], [(4095, .dead), (4096, .row 1 false b)]⟩ (kFin R [(.tmp 4, .fz)] [])
def K_law08_WordsSplit_3 (R : Orc) (k : Nat) (w : Bool) : AExit → St → Option Ans := (kBlk 4 (kSeq R k w [] A_law08_WordsSplit_s3 (kFin R [(.tmp 4, .fz)] [])))
def L_law08_WordsSplit_3_0 (R : Orc) (k : Nat) (w : Bool) (n : Nat) (a : FV) (b : Int) := loopL R k w [] [5, 11, 13] [4] A_law08_WordsSplit_b3 n ⟨[(5, .nils), (11, .fz a), (13, .fz (.int .i64 b))], [(4095, .dead)]⟩
def L_law08_WordsSplit_3_1 (R : Orc) (k : Nat) (w : Bool) (n : Nat) (a : FV) (b : Int) (c : List FV) := loopL R k w [] [5, 11, 13] [4] A_law08_WordsSplit_b3 n ⟨[(5, .rw 4096), (11, .fz a), (13, .fz (.int .i64 b))], [(4095, .dead), (4096, .row 1 false c)]⟩
def X_law08_WordsSplit_3_0 : St := ⟨[], [(4095, .dead)]⟩
def X_law08_WordsSplit_3_1 (a : Bool) : St := ⟨[(4, .fz (.bool a))], [(4095, .dead)]⟩
theorem E_law08_WordsSplit (R : Orc) (k : Nat) (w : Bool) (a b : ByteArray) : callL R k w A_law08_WordsSplit [.fz (.str a), .fz (.str b)] = ifB (decide ((ByteArray.size a : Int) > 6000))
 (onR (R N_law08_lives []) fun r0 => when (List.isEmpty r0.2 && allF [.fz] r0.1) (when (isBool (toF (List.getD r0.1 0 em))) (some ([.fz (.bool (toBool (toF (List.getD r0.1 0 em))))], []))))
 (ifB (decide ((ByteArray.size b : Int) > 100))
 (onR (R N_law08_lives []) fun r1 => when (List.isEmpty r1.2 && allF [.fz] r1.1) (when (isBool (toF (List.getD r1.1 0 em))) (some ([.fz (.bool (toBool (toF (List.getD r1.1 0 em))))], []))))
 (jump w (J_law08_WordsSplit_7_0 R k w a b))) := by kernel_rfl
theorem J_law08_WordsSplit_7_0_eq (R : Orc) (k : Nat) (w : Bool) (a b : ByteArray) : J_law08_WordsSplit_7_0 R k w a b = ifB (ByteArray.toList b == ByteArray.toList (⟨#[]⟩ : ByteArray))
 (onR (R N_ref03_Signs [.fz (.str a)]) fun r2 => when (List.isEmpty r2.2 && allF [.fz, .fz] r2.1) (when (isBool (toF (List.getD r2.1 1 em))) (onL (L_law08_WordsSplit_1_0 R k w k a b (toF (List.getD r2.1 0 em)) (toBool (toF (List.getD r2.1 1 em))) 0) (K_law08_WordsSplit_1 R k w))))
 (onL (L_law08_WordsSplit_2_0 R k w k a b 0 0) (K_law08_WordsSplit_2 R k w)) := by kernel_rfl
theorem L_law08_WordsSplit_1_0_eq (R : Orc) (k : Nat) (w : Bool) (n : Nat) (a b : ByteArray) (c : FV) (d : Bool) (e : Int) : L_law08_WordsSplit_1_0 R k w (n + 1) a b c d e = ifB d
 (when (isSl c) (ifB (decide (e < (List.length (toSl c) : Int)))
 (jump w (J_law08_WordsSplit_1_0 R k w n a b c d e))
 (some ((.exit 0), X_law08_WordsSplit_1_0 a b))))
 (some ((.exit 0), X_law08_WordsSplit_1_0 a b)) := by kernel_rfl
theorem L_law08_WordsSplit_2_0_eq (R : Orc) (k : Nat) (w : Bool) (n : Nat) (a b : ByteArray) (c d : Int) : L_law08_WordsSplit_2_0 R k w (n + 1) a b c d = ifB (decide (d ≤ (ByteArray.size a : Int)))
 (onR (R N_law08_at [.fz (.str a), .fz (.str b), .fz (.int .i64 d)]) fun r3 => when (List.isEmpty r3.2 && allF [.fz] r3.1) (when (isBool (toF (List.getD r3.1 0 em))) (ifB (toBool (toF (List.getD r3.1 0 em)))
 (when (decide (0 ≤ d) && decide (d ≤ (ByteArray.size a : Int))) (when (decide (0 ≤ c) && decide (c ≤ d)) (when (decide (((0 : Nat) + List.length [(FV.str (ByteArray.extract a (Int.toNat c) (Int.toNat d)))]) * 16 ≤ roomy) && decide ((0 : Nat) + List.length [(FV.str (ByteArray.extract a (Int.toNat c) (Int.toNat d)))] ≤ roomy)) (L_law08_WordsSplit_2_1 R k w n a b (IntKind.wrap .i64 (d + (ByteArray.size b : Int))) (IntKind.wrap .i64 (d + (ByteArray.size b : Int))) [(.str (ByteArray.extract a (Int.toNat c) (Int.toNat d)))]))))
 (L_law08_WordsSplit_2_0 R k w n a b c (IntKind.wrap .i64 (d + 1))))))
 (some ((.exit 2), X_law08_WordsSplit_2_0 a b c)) := by kernel_rfl
theorem J_law08_WordsSplit_1_0_eq (R : Orc) (k : Nat) (w : Bool) (n : Nat) (a b : ByteArray) (c : FV) (d : Bool) (f : Int) : J_law08_WordsSplit_1_0 R k w n a b c d f = when (isSl c) (when ((decide (0 ≤ f)) && (decide (f < (List.length (toSl c) : Int)))) (when (fits 1 false (List.getD (toSl c) (Int.toNat f) nilp)) (when (isInt .i64 (List.getD (toSl c) (Int.toNat f) nilp)) (onR (R N_ref03_Put [.fz (.int .i64 (toInt (List.getD (toSl c) (Int.toNat f) nilp)))]) fun r4 => when (List.isEmpty r4.2 && allF [.fz] r4.1) (when ((isSl (toF (List.getD r4.1 0 em))) && (List.all (toSl (toF (List.getD r4.1 0 em))) (fits 1 false))) (when (List.all (toSl (toF (List.getD r4.1 0 em))) (isInt .u8)) (when (decide (((0 : Nat) + List.length [(FV.str (⟨(List.map (fun e => UInt8.ofNat (toInt e).toNat) (toSl (toF (List.getD r4.1 0 em)))).toArray⟩ : ByteArray))]) * 16 ≤ roomy) && decide ((0 : Nat) + List.length [(FV.str (⟨(List.map (fun e => UInt8.ofNat (toInt e).toNat) (toSl (toF (List.getD r4.1 0 em)))).toArray⟩ : ByteArray))] ≤ roomy)) (L_law08_WordsSplit_1_1 R k w n a b c d (IntKind.wrap .i64 (f + 1)) [(.str (⟨(List.map (fun e => UInt8.ofNat (toInt e).toNat) (toSl (toF (List.getD r4.1 0 em)))).toArray⟩ : ByteArray))])))))))) := by kernel_rfl
theorem X_law08_WordsSplit_1_0_eq (R : Orc) (k : Nat) (w : Bool) (a b : ByteArray) : K_law08_WordsSplit_1 R k w (.exit 0) (X_law08_WordsSplit_1_0 a b) = jump w (J_law08_WordsSplit_5_0 R k w a b) := by kernel_rfl
theorem L_law08_WordsSplit_2_1_eq (R : Orc) (k : Nat) (w : Bool) (n : Nat) (a b : ByteArray) (c d : Int) (e : List FV) : L_law08_WordsSplit_2_1 R k w (n + 1) a b c d e = ifB (decide (d ≤ (ByteArray.size a : Int)))
 (onR (R N_law08_at [.fz (.str a), .fz (.str b), .fz (.int .i64 d)]) fun r5 => when (List.isEmpty r5.2 && allF [.fz] r5.1) (when (isBool (toF (List.getD r5.1 0 em))) (ifB (toBool (toF (List.getD r5.1 0 em)))
 (when (decide (0 ≤ d) && decide (d ≤ (ByteArray.size a : Int))) (when (decide (0 ≤ c) && decide (c ≤ d)) (when (decide ((List.length e + List.length [(FV.str (ByteArray.extract a (Int.toNat c) (Int.toNat d)))]) * 16 ≤ roomy) && decide (List.length e + List.length [(FV.str (ByteArray.extract a (Int.toNat c) (Int.toNat d)))] ≤ roomy)) (L_law08_WordsSplit_2_1 R k w n a b (IntKind.wrap .i64 (d + (ByteArray.size b : Int))) (IntKind.wrap .i64 (d + (ByteArray.size b : Int))) (e ++ [(FV.str (ByteArray.extract a (Int.toNat c) (Int.toNat d)))])))))
 (L_law08_WordsSplit_2_1 R k w n a b c (IntKind.wrap .i64 (d + 1)) e))))
 (some ((.exit 2), X_law08_WordsSplit_2_1 a b c e)) := by kernel_rfl
theorem X_law08_WordsSplit_2_0_eq (R : Orc) (k : Nat) (w : Bool) (a b : ByteArray) (c : Int) : K_law08_WordsSplit_2 R k w (.exit 2) (X_law08_WordsSplit_2_0 a b c) = when (decide (0 ≤ (ByteArray.size a : Int)) && decide ((ByteArray.size a : Int) ≤ (ByteArray.size a : Int))) (when (decide (0 ≤ c) && decide (c ≤ (ByteArray.size a : Int))) (when (decide (((0 : Nat) + List.length [(FV.str (ByteArray.extract a (Int.toNat c) (Int.toNat (ByteArray.size a : Int))))]) * 16 ≤ roomy) && decide ((0 : Nat) + List.length [(FV.str (ByteArray.extract a (Int.toNat c) (Int.toNat (ByteArray.size a : Int))))] ≤ roomy)) (jump w (J_law08_WordsSplit_5_1 R k w a b [(.str (ByteArray.extract a (Int.toNat c) (Int.toNat (ByteArray.size a : Int))))])))) := by kernel_rfl
theorem L_law08_WordsSplit_1_1_eq (R : Orc) (k : Nat) (w : Bool) (n : Nat) (a b : ByteArray) (c : FV) (d : Bool) (e : Int) (f : List FV) : L_law08_WordsSplit_1_1 R k w (n + 1) a b c d e f = ifB d
 (when (isSl c) (ifB (decide (e < (List.length (toSl c) : Int)))
 (jump w (J_law08_WordsSplit_1_1 R k w n a b c d e f))
 (some ((.exit 0), X_law08_WordsSplit_1_1 a b f))))
 (some ((.exit 0), X_law08_WordsSplit_1_1 a b f)) := by kernel_rfl
theorem J_law08_WordsSplit_5_0_eq (R : Orc) (k : Nat) (w : Bool) (a b : ByteArray) : J_law08_WordsSplit_5_0 R k w a b = onR (R N_words_Split [.fz (.str a), .fz (.str b)]) fun r6 => when (List.isEmpty r6.2 && allF [.fz, .fz] r6.1) (when (isBool (toF (List.getD r6.1 1 em))) (ifB (!(toBool (toF (List.getD r6.1 1 em))))
 (some ([.fz (.bool false)], []))
 (when (isSl (toF (List.getD r6.1 0 em))) (ifB ((List.length (toSl (toF (List.getD r6.1 0 em))) : Int) != 0)
 (some ([.fz (.bool false)], []))
 (jump w (J_law08_WordsSplit_4_0 R k w (toF (List.getD r6.1 0 em)))))))) := by kernel_rfl
theorem X_law08_WordsSplit_2_1_eq (R : Orc) (k : Nat) (w : Bool) (a b : ByteArray) (c : Int) (d : List FV) : K_law08_WordsSplit_2 R k w (.exit 2) (X_law08_WordsSplit_2_1 a b c d) = when (decide (0 ≤ (ByteArray.size a : Int)) && decide ((ByteArray.size a : Int) ≤ (ByteArray.size a : Int))) (when (decide (0 ≤ c) && decide (c ≤ (ByteArray.size a : Int))) (when (decide ((List.length d + List.length [(FV.str (ByteArray.extract a (Int.toNat c) (Int.toNat (ByteArray.size a : Int))))]) * 16 ≤ roomy) && decide (List.length d + List.length [(FV.str (ByteArray.extract a (Int.toNat c) (Int.toNat (ByteArray.size a : Int))))] ≤ roomy)) (jump w (J_law08_WordsSplit_5_1 R k w a b (d ++ [(FV.str (ByteArray.extract a (Int.toNat c) (Int.toNat (ByteArray.size a : Int))))]))))) := by kernel_rfl
theorem J_law08_WordsSplit_5_1_eq (R : Orc) (k : Nat) (w : Bool) (a b : ByteArray) (c : List FV) : J_law08_WordsSplit_5_1 R k w a b c = onR (R N_words_Split [.fz (.str a), .fz (.str b)]) fun r7 => when (List.isEmpty r7.2 && allF [.fz, .fz] r7.1) (when (isBool (toF (List.getD r7.1 1 em))) (ifB (decide ((List.length c : Int) > 4096))
 (ifB (!(toBool (toF (List.getD r7.1 1 em))))
 (when (isSl (toF (List.getD r7.1 0 em))) (ifB ((List.length (toSl (toF (List.getD r7.1 0 em))) : Int) == 0)
 (onR (R N_law08_lives []) fun r8 => when (List.isEmpty r8.2 && allF [.fz] r8.1) (when (isBool (toF (List.getD r8.1 0 em))) (some ([.fz (.bool (toBool (toF (List.getD r8.1 0 em))))], []))))
 (some ([.fz (.bool false)], []))))
 (some ([.fz (.bool false)], [])))
 (ifB (!(toBool (toF (List.getD r7.1 1 em))))
 (some ([.fz (.bool false)], []))
 (when (isSl (toF (List.getD r7.1 0 em))) (ifB ((List.length (toSl (toF (List.getD r7.1 0 em))) : Int) != (List.length c : Int))
 (some ([.fz (.bool false)], []))
 (jump w (J_law08_WordsSplit_4_1 R k w (toF (List.getD r7.1 0 em)) c))))))) := by kernel_rfl
theorem J_law08_WordsSplit_1_1_eq (R : Orc) (k : Nat) (w : Bool) (n : Nat) (a b : ByteArray) (c : FV) (d : Bool) (f : Int) (g : List FV) : J_law08_WordsSplit_1_1 R k w n a b c d f g = when (isSl c) (when ((decide (0 ≤ f)) && (decide (f < (List.length (toSl c) : Int)))) (when (fits 1 false (List.getD (toSl c) (Int.toNat f) nilp)) (when (isInt .i64 (List.getD (toSl c) (Int.toNat f) nilp)) (onR (R N_ref03_Put [.fz (.int .i64 (toInt (List.getD (toSl c) (Int.toNat f) nilp)))]) fun r9 => when (List.isEmpty r9.2 && allF [.fz] r9.1) (when ((isSl (toF (List.getD r9.1 0 em))) && (List.all (toSl (toF (List.getD r9.1 0 em))) (fits 1 false))) (when (List.all (toSl (toF (List.getD r9.1 0 em))) (isInt .u8)) (when (decide ((List.length g + List.length [(FV.str (⟨(List.map (fun e => UInt8.ofNat (toInt e).toNat) (toSl (toF (List.getD r9.1 0 em)))).toArray⟩ : ByteArray))]) * 16 ≤ roomy) && decide (List.length g + List.length [(FV.str (⟨(List.map (fun e => UInt8.ofNat (toInt e).toNat) (toSl (toF (List.getD r9.1 0 em)))).toArray⟩ : ByteArray))] ≤ roomy)) (L_law08_WordsSplit_1_1 R k w n a b c d (IntKind.wrap .i64 (f + 1)) (g ++ [(FV.str (⟨(List.map (fun e => UInt8.ofNat (toInt e).toNat) (toSl (toF (List.getD r9.1 0 em)))).toArray⟩ : ByteArray))]))))))))) := by kernel_rfl
theorem X_law08_WordsSplit_1_1_eq (R : Orc) (k : Nat) (w : Bool) (a b : ByteArray) (c : List FV) : K_law08_WordsSplit_1 R k w (.exit 0) (X_law08_WordsSplit_1_1 a b c) = jump w (J_law08_WordsSplit_5_1 R k w a b c) := by kernel_rfl
theorem J_law08_WordsSplit_4_0_eq (R : Orc) (k : Nat) (w : Bool) (a : FV) : J_law08_WordsSplit_4_0 R k w a = onL (L_law08_WordsSplit_3_0 R k w k a 0) (K_law08_WordsSplit_3 R k w) := by kernel_rfl
theorem J_law08_WordsSplit_4_1_eq (R : Orc) (k : Nat) (w : Bool) (a : FV) (b : List FV) : J_law08_WordsSplit_4_1 R k w a b = onL (L_law08_WordsSplit_3_1 R k w k a 0 b) (K_law08_WordsSplit_3 R k w) := by kernel_rfl
theorem L_law08_WordsSplit_3_0_eq (R : Orc) (k : Nat) (w : Bool) (n : Nat) (a : FV) (b : Int) : L_law08_WordsSplit_3_0 R k w (n + 1) a b = when (isSl a) (ifB (decide (b < (List.length (toSl a) : Int)))
 (when (isSl a) (when ((decide (0 ≤ b)) && (decide (b < (List.length (toSl a) : Int)))) (when (fits 1 false (List.getD (toSl a) (Int.toNat b) nilp)) (when (isStr (List.getD (toSl a) (Int.toNat b) nilp)) (none)))))
 (some ((.exit 4), X_law08_WordsSplit_3_0))) := by kernel_rfl
theorem L_law08_WordsSplit_3_1_eq (R : Orc) (k : Nat) (w : Bool) (n : Nat) (a : FV) (b : Int) (c : List FV) : L_law08_WordsSplit_3_1 R k w (n + 1) a b c = when (isSl a) (ifB (decide (b < (List.length (toSl a) : Int)))
 (when (isSl a) (when ((decide (0 ≤ b)) && (decide (b < (List.length (toSl a) : Int)))) (when (fits 1 false (List.getD (toSl a) (Int.toNat b) nilp)) (when (isStr (List.getD (toSl a) (Int.toNat b) nilp)) (when ((decide (0 ≤ b)) && (decide (b < (List.length c : Int)))) (when (Nat.blt (Int.toNat b) (List.length c)) (when (isStr (List.getD c (Int.toNat b) nilp)) (ifB (!(ByteArray.toList (toStr (List.getD (toSl a) (Int.toNat b) nilp)) == ByteArray.toList (toStr (List.getD c (Int.toNat b) nilp))))
 (some (.ret, X_law08_WordsSplit_3_1 false))
 (L_law08_WordsSplit_3_1 R k w n a (IntKind.wrap .i64 (b + 1)) c)))))))))
 (some ((.exit 4), X_law08_WordsSplit_3_0))) := by kernel_rfl
theorem X_law08_WordsSplit_3_0_eq (R : Orc) (k : Nat) (w : Bool) : K_law08_WordsSplit_3 R k w (.exit 4) (X_law08_WordsSplit_3_0) = onR (R N_law08_lives []) fun r10 => when (List.isEmpty r10.2 && allF [.fz] r10.1) (when (isBool (toF (List.getD r10.1 0 em))) (some ([.fz (.bool (toBool (toF (List.getD r10.1 0 em))))], []))) := by kernel_rfl
theorem X_law08_WordsSplit_3_1_eq (R : Orc) (k : Nat) (w a : Bool) : K_law08_WordsSplit_3 R k w .ret (X_law08_WordsSplit_3_1 a) = some ([.fz (.bool a)], []) := by kernel_rfl
/-! keyhole/keyholelaw08.WordsParts -/
def C_law08_WordsParts : ACode := codeOf 4 Try.f4
def A_law08_WordsParts_b1 : ACode := C_law08_WordsParts.at [1, 1, 0, 0, 1, 0, 0]
def A_law08_WordsParts_b2 : ACode := C_law08_WordsParts.at [1, 1, 0, 1, 1, 1, 1, 1, 0, 0, 1, 0, 0]
def A_law08_WordsParts_s1 : ACode := C_law08_WordsParts.at [1, 1, 0, 1, 1, 1, 1, 1, 0, 1]
def A_law08_WordsParts_j2 : ACode := C_law08_WordsParts.at [1, 1, 0, 1, 1, 1, 1, 1, 0]
def A_law08_WordsParts_s3 : ACode := C_law08_WordsParts.at [1, 1, 0, 1]
def A_law08_WordsParts_j4 : ACode := C_law08_WordsParts.at [1, 1, 0]
def A_law08_WordsParts : AFunc := ⟨2, [(.tmp 4, .fz)], C_law08_WordsParts, none⟩
def J_law08_WordsParts_4_0 (R : Orc) (k : Nat) (w : Bool) (a : List FV) (b : Int) := execL R k w [] A_law08_WordsParts_j4 Ans ⟨[(0, .fz (.sl a)), (1, .fz (.int .u8 b))], [(4095, .dead)]⟩ (kFin R [(.tmp 4, .fz)] [])
def K_law08_WordsParts_1 (R : Orc) (k : Nat) (w : Bool) : AExit → St → Option Ans := (kBlk 0 (kSeq R k w [] A_law08_WordsParts_s3 (kFin R [(.tmp 4, .fz)] [])))
def L_law08_WordsParts_1_0 (R : Orc) (k : Nat) (w : Bool) (n : Nat) (a : List FV) (b c : Int) := loopL R k w [] [0, 1, 5] [0, 1, 4] A_law08_WordsParts_b1 n ⟨[(0, .fz (.sl a)), (1, .fz (.int .u8 b)), (5, .fz (.int .i64 c))], [(4095, .dead)]⟩
def X_law08_WordsParts_1_0 (a : List FV) (b : Int) (c : Bool) : St := ⟨[(0, .fz (.sl a)), (1, .fz (.int .u8 b)), (4, .fz (.bool c))], [(4095, .dead)]⟩
def X_law08_WordsParts_1_1 (a : List FV) (b : Int) : St := ⟨[(0, .fz (.sl a)), (1, .fz (.int .u8 b))], [(4095, .dead)]⟩
def J_law08_WordsParts_2_0 (R : Orc) (k : Nat) (w : Bool) (a : List FV) (b : FV) := execL R k w [] A_law08_WordsParts_j2 Ans ⟨[(0, .fz (.sl a)), (8, .fz b)], [(4095, .dead)]⟩ (kFin R [(.tmp 4, .fz)] [])
def K_law08_WordsParts_2 (R : Orc) (k : Nat) (w : Bool) : AExit → St → Option Ans := (kBlk 2 (kSeq R k w [] A_law08_WordsParts_s1 (kFin R [(.tmp 4, .fz)] [])))
def L_law08_WordsParts_2_0 (R : Orc) (k : Nat) (w : Bool) (n : Nat) (a : List FV) (b : FV) (c : Int) := loopL R k w [] [0, 8, 10] [4] A_law08_WordsParts_b2 n ⟨[(0, .fz (.sl a)), (8, .fz b), (10, .fz (.int .i64 c))], [(4095, .dead)]⟩
def X_law08_WordsParts_2_0 (a : Bool) : St := ⟨[(4, .fz (.bool a))], [(4095, .dead)]⟩
def X_law08_WordsParts_2_1 : St := ⟨[], [(4095, .dead)]⟩
theorem E_law08_WordsParts (R : Orc) (k : Nat) (w : Bool) (a : List FV) (b : Int) : callL R k w A_law08_WordsParts [.fz (.sl a), .fz (.int .u8 b)] = ifB (decide ((List.length a : Int) > 50))
 (onR (R N_law08_lives []) fun r0 => when (List.isEmpty r0.2 && allF [.fz] r0.1) (when (isBool (toF (List.getD r0.1 0 em))) (some ([.fz (.bool (toBool (toF (List.getD r0.1 0 em))))], []))))
 (ifB ((List.length a : Int) == 0)
 (onR (R N_law08_lives []) fun r1 => when (List.isEmpty r1.2 && allF [.fz] r1.1) (when (isBool (toF (List.getD r1.1 0 em))) (some ([.fz (.bool (toBool (toF (List.getD r1.1 0 em))))], []))))
 (jump w (J_law08_WordsParts_4_0 R k w a b))) := by kernel_rfl
theorem J_law08_WordsParts_4_0_eq (R : Orc) (k : Nat) (w : Bool) (a : List FV) (b : Int) : J_law08_WordsParts_4_0 R k w a b = onL (L_law08_WordsParts_1_0 R k w k a b 0) (K_law08_WordsParts_1 R k w) := by kernel_rfl
theorem L_law08_WordsParts_1_0_eq (R : Orc) (k : Nat) (w : Bool) (n : Nat) (a : List FV) (b c : Int) : L_law08_WordsParts_1_0 R k w (n + 1) a b c = ifB (decide (c < (List.length a : Int)))
 (when ((decide (0 ≤ c)) && (decide (c < (List.length a : Int)))) (when (fits 1 false (List.getD a (Int.toNat c) nilp)) (when (isStr (List.getD a (Int.toNat c) nilp)) (ifB (decide ((ByteArray.size (toStr (List.getD a (Int.toNat c) nilp)) : Int) > 200))
 (onR (R N_law08_lives []) fun r2 => when (List.isEmpty r2.2 && allF [.fz] r2.1) (when (isBool (toF (List.getD r2.1 0 em))) (some (.ret, X_law08_WordsParts_1_0 a b (toBool (toF (List.getD r2.1 0 em)))))))
 (when ((decide (0 ≤ c)) && (decide (c < (List.length a : Int)))) (when (fits 1 false (List.getD a (Int.toNat c) nilp)) (when (isStr (List.getD a (Int.toNat c) nilp)) (when (List.all [.int .u8 b] (isInt .u8)) (onR (R N_words_Has [.fz (.str (toStr (List.getD a (Int.toNat c) nilp))), .fz (.str (⟨(List.map (fun e => UInt8.ofNat (toInt e).toNat) [.int .u8 b]).toArray⟩ : ByteArray))]) fun r3 => when (List.isEmpty r3.2 && allF [.fz] r3.1) (when (isBool (toF (List.getD r3.1 0 em))) (ifB (toBool (toF (List.getD r3.1 0 em)))
 (onR (R N_law08_lives []) fun r4 => when (List.isEmpty r4.2 && allF [.fz] r4.1) (when (isBool (toF (List.getD r4.1 0 em))) (some (.ret, X_law08_WordsParts_1_0 a b (toBool (toF (List.getD r4.1 0 em)))))))
 (L_law08_WordsParts_1_0 R k w n a b (IntKind.wrap .i64 (c + 1))))))))))))))
 (some ((.exit 0), X_law08_WordsParts_1_1 a b)) := by kernel_rfl
theorem X_law08_WordsParts_1_0_eq (R : Orc) (k : Nat) (w : Bool) (a : List FV) (b : Int) (c : Bool) : K_law08_WordsParts_1 R k w .ret (X_law08_WordsParts_1_0 a b c) = some ([.fz (.bool c)], []) := by kernel_rfl
theorem X_law08_WordsParts_1_1_eq (R : Orc) (k : Nat) (w : Bool) (a : List FV) (b : Int) : K_law08_WordsParts_1 R k w (.exit 0) (X_law08_WordsParts_1_1 a b) = when (List.all [.int .u8 b] (isInt .u8)) (onR (R N_words_Join [.fz (.sl a), .fz (.str (⟨(List.map (fun e => UInt8.ofNat (toInt e).toNat) [.int .u8 b]).toArray⟩ : ByteArray))]) fun r5 => when (List.isEmpty r5.2 && allF [.fz, .fz] r5.1) (when (isStr (toF (List.getD r5.1 0 em))) (when (isBool (toF (List.getD r5.1 1 em))) (ifB (!(toBool (toF (List.getD r5.1 1 em))))
 (ifB (ByteArray.toList (toStr (toF (List.getD r5.1 0 em))) == ByteArray.toList (⟨#[]⟩ : ByteArray))
 (onR (R N_law08_lives []) fun r6 => when (List.isEmpty r6.2 && allF [.fz] r6.1) (when (isBool (toF (List.getD r6.1 0 em))) (some ([.fz (.bool (toBool (toF (List.getD r6.1 0 em))))], []))))
 (some ([.fz (.bool false)], [])))
 (when (List.all [.int .u8 b] (isInt .u8)) (onR (R N_words_Split [.fz (.str (toStr (toF (List.getD r5.1 0 em)))), .fz (.str (⟨(List.map (fun e => UInt8.ofNat (toInt e).toNat) [.int .u8 b]).toArray⟩ : ByteArray))]) fun r7 => when (List.isEmpty r7.2 && allF [.fz, .fz] r7.1) (when (isBool (toF (List.getD r7.1 1 em))) (ifB (!(toBool (toF (List.getD r7.1 1 em))))
 (some ([.fz (.bool false)], []))
 (when (isSl (toF (List.getD r7.1 0 em))) (ifB ((List.length (toSl (toF (List.getD r7.1 0 em))) : Int) != (List.length a : Int))
 (some ([.fz (.bool false)], []))
 (jump w (J_law08_WordsParts_2_0 R k w a (toF (List.getD r7.1 0 em)))))))))))))) := by kernel_rfl
theorem J_law08_WordsParts_2_0_eq (R : Orc) (k : Nat) (w : Bool) (a : List FV) (b : FV) : J_law08_WordsParts_2_0 R k w a b = onL (L_law08_WordsParts_2_0 R k w k a b 0) (K_law08_WordsParts_2 R k w) := by kernel_rfl
theorem L_law08_WordsParts_2_0_eq (R : Orc) (k : Nat) (w : Bool) (n : Nat) (a : List FV) (b : FV) (c : Int) : L_law08_WordsParts_2_0 R k w (n + 1) a b c = ifB (decide (c < (List.length a : Int)))
 (when (isSl b) (when ((decide (0 ≤ c)) && (decide (c < (List.length (toSl b) : Int)))) (when (fits 1 false (List.getD (toSl b) (Int.toNat c) nilp)) (when (isStr (List.getD (toSl b) (Int.toNat c) nilp)) (when ((decide (0 ≤ c)) && (decide (c < (List.length a : Int)))) (when (fits 1 false (List.getD a (Int.toNat c) nilp)) (when (isStr (List.getD a (Int.toNat c) nilp)) (ifB (!(ByteArray.toList (toStr (List.getD (toSl b) (Int.toNat c) nilp)) == ByteArray.toList (toStr (List.getD a (Int.toNat c) nilp))))
 (some (.ret, X_law08_WordsParts_2_0 false))
 (L_law08_WordsParts_2_0 R k w n a b (IntKind.wrap .i64 (c + 1)))))))))))
 (some ((.exit 2), X_law08_WordsParts_2_1)) := by kernel_rfl
theorem X_law08_WordsParts_2_0_eq (R : Orc) (k : Nat) (w a : Bool) : K_law08_WordsParts_2 R k w .ret (X_law08_WordsParts_2_0 a) = some ([.fz (.bool a)], []) := by kernel_rfl
theorem X_law08_WordsParts_2_1_eq (R : Orc) (k : Nat) (w : Bool) : K_law08_WordsParts_2 R k w (.exit 2) (X_law08_WordsParts_2_1) = onR (R N_law08_lives []) fun r8 => when (List.isEmpty r8.2 && allF [.fz] r8.1) (when (isBool (toF (List.getD r8.1 0 em))) (some ([.fz (.bool (toBool (toF (List.getD r8.1 0 em))))], []))) := by kernel_rfl
/-! keyhole/keyholelaw08.WordsJoin -/
def C_law08_WordsJoin : ACode := codeOf 5 Try.f5
def A_law08_WordsJoin_j1 : ACode := C_law08_WordsJoin.at [1, 1, 0, 1, 0, 1, 0, 0, 1, 0, 0, 1, 1, 0]
def A_law08_WordsJoin_s2 : ACode := C_law08_WordsJoin.at [1, 1, 0, 1, 0, 1, 0, 0, 1, 1]
def A_law08_WordsJoin_b1 : ACode := C_law08_WordsJoin.at [1, 1, 0, 1, 0, 1, 0, 0]
def A_law08_WordsJoin_j3 : ACode := C_law08_WordsJoin.at [1, 1, 0, 1, 1, 1, 1, 1, 0, 1, 1, 0, 1, 0, 0, 1, 0]
def A_law08_WordsJoin_b2 : ACode := C_law08_WordsJoin.at [1, 1, 0, 1, 1, 1, 1, 1, 0, 1, 1, 0, 1, 0, 0]
def A_law08_WordsJoin_s4 : ACode := C_law08_WordsJoin.at [1, 1, 0, 1, 1, 1, 1, 1, 0, 1, 1, 1]
def A_law08_WordsJoin_j5 : ACode := C_law08_WordsJoin.at [1, 1, 0, 1, 1, 1, 1, 1, 0]
def A_law08_WordsJoin_s6 : ACode := C_law08_WordsJoin.at [1, 1, 0, 1, 1]
def A_law08_WordsJoin_j7 : ACode := C_law08_WordsJoin.at [1, 1, 0]
def A_law08_WordsJoin : AFunc := ⟨3, [(.tmp 6, .fz)], C_law08_WordsJoin, none⟩
def J_law08_WordsJoin_7_0 (R : Orc) (k : Nat) (w : Bool) (a : List FV) (b : ByteArray) (c : Int) := execL R k w [] A_law08_WordsJoin_j7 Ans ⟨[(0, .fz (.sl a)), (1, .fz (.str b)), (2, .fz (.int .i64 c))], [(4095, .dead)]⟩ (kFin R [(.tmp 6, .fz)] [])
def K_law08_WordsJoin_1 (R : Orc) (k : Nat) (w : Bool) : AExit → St → Option Ans := (kBlk 0 (kSeq R k w [] A_law08_WordsJoin_s6 (kFin R [(.tmp 6, .fz)] [])))
def L_law08_WordsJoin_1_0 (R : Orc) (k : Nat) (w : Bool) (n : Nat) (a : List FV) (b : ByteArray) (c : Int) (d : ByteArray) (e : Int) := loopL R k w [] [0, 1, 2, 7, 8] [0, 1, 2, 6, 7] A_law08_WordsJoin_b1 n ⟨[(0, .fz (.sl a)), (1, .fz (.str b)), (2, .fz (.int .i64 c)), (7, .fz (.str d)), (8, .fz (.int .i64 e))], [(4095, .dead)]⟩
def X_law08_WordsJoin_1_0 (a : List FV) (b : ByteArray) (c : Int) (d : Bool) (e : ByteArray) : St := ⟨[(0, .fz (.sl a)), (1, .fz (.str b)), (2, .fz (.int .i64 c)), (6, .fz (.bool d)), (7, .fz (.str e))], [(4095, .dead)]⟩
def J_law08_WordsJoin_1_0 (R : Orc) (k : Nat) (w : Bool) (n : Nat) (a : List FV) (b : ByteArray) (c : Int) (d : ByteArray) (e : Int) := execL R k w [] A_law08_WordsJoin_j1 (AExit × St) ⟨[(0, .fz (.sl a)), (1, .fz (.str b)), (2, .fz (.int .i64 c)), (7, .fz (.str d)), (8, .fz (.int .i64 e))], [(4095, .dead)]⟩ (kBlk 1 (kSeq R k w [] A_law08_WordsJoin_s2 (kLoop R k w [] [0, 1, 2, 7, 8] [0, 1, 2, 6, 7] A_law08_WordsJoin_b1 n)))
def X_law08_WordsJoin_1_1 (a : List FV) (b : ByteArray) (c : Int) (d : ByteArray) : St := ⟨[(0, .fz (.sl a)), (1, .fz (.str b)), (2, .fz (.int .i64 c)), (7, .fz (.str d))], [(4095, .dead)]⟩
def J_law08_WordsJoin_5_0 (R : Orc) (k : Nat) (w : Bool) (a : ByteArray) (b : Int) := execL R k w [] A_law08_WordsJoin_j5 Ans ⟨[(1, .fz (.str a)), (2, .fz (.int .i64 b))], [(4095, .dead)]⟩ (kFin R [(.tmp 6, .fz)] [])
def K_law08_WordsJoin_2 (R : Orc) (k : Nat) (w : Bool) : AExit → St → Option Ans := (kBlk 2 (kSeq R k w [] A_law08_WordsJoin_s4 (kFin R [(.tmp 6, .fz)] [])))
def L_law08_WordsJoin_2_0 (R : Orc) (k : Nat) (w : Bool) (n : Nat) (a : ByteArray) (b : Int) (c : ByteArray) (d : Bool) (e : ByteArray) (f : Int) := loopL R k w [] [1, 2, 12, 13, 14, 15] [12, 13, 14] A_law08_WordsJoin_b2 n ⟨[(1, .fz (.str a)), (2, .fz (.int .i64 b)), (12, .fz (.str c)), (13, .fz (.bool d)), (14, .fz (.str e)), (15, .fz (.int .i64 f))], [(4095, .dead)]⟩
def J_law08_WordsJoin_3_0 (R : Orc) (k : Nat) (w : Bool) (n : Nat) (a : ByteArray) (b : Int) (c : ByteArray) (d : Bool) (e : ByteArray) (f : Int) := execL R k w [] A_law08_WordsJoin_j3 (AExit × St) ⟨[(1, .fz (.str a)), (2, .fz (.int .i64 b)), (12, .fz (.str c)), (13, .fz (.bool d)), (14, .fz (.str e)), (15, .fz (.int .i64 f))], [(4095, .dead)]⟩ (kLoop R k w [] [1, 2, 12, 13, 14, 15] [12, 13, 14] A_law08_WordsJoin_b2 n)
def X_law08_WordsJoin_2_0 (a : ByteArray) (b : Bool) (c : ByteArray) : St := ⟨[(12, .fz (.str a)), (13, .fz (.bool b)), (14, .fz (.str c))], [(4095, .dead)]⟩
theorem E_law08_WordsJoin (R : Orc) (k : Nat) (w : Bool) (a : List FV) (b : ByteArray) (c : Int) : callL R k w A_law08_WordsJoin [.fz (.sl a), .fz (.str b), .fz (.int .i64 c)] = ifB (decide ((List.length a : Int) > 100))
 (onR (R N_law08_lives []) fun r0 => when (List.isEmpty r0.2 && allF [.fz] r0.1) (when (isBool (toF (List.getD r0.1 0 em))) (some ([.fz (.bool (toBool (toF (List.getD r0.1 0 em))))], []))))
 (ifB (decide ((ByteArray.size b : Int) > 5000))
 (onR (R N_law08_lives []) fun r1 => when (List.isEmpty r1.2 && allF [.fz] r1.1) (when (isBool (toF (List.getD r1.1 0 em))) (some ([.fz (.bool (toBool (toF (List.getD r1.1 0 em))))], []))))
 (jump w (J_law08_WordsJoin_7_0 R k w a b c))) := by kernel_rfl
theorem J_law08_WordsJoin_7_0_eq (R : Orc) (k : Nat) (w : Bool) (a : List FV) (b : ByteArray) (c : Int) : J_law08_WordsJoin_7_0 R k w a b c = onL (L_law08_WordsJoin_1_0 R k w k a b c (⟨#[]⟩ : ByteArray) 0) (K_law08_WordsJoin_1 R k w) := by kernel_rfl
theorem L_law08_WordsJoin_1_0_eq (R : Orc) (k : Nat) (w : Bool) (n : Nat) (a : List FV) (b : ByteArray) (c : Int) (d : ByteArray) (e : Int) : L_law08_WordsJoin_1_0 R k w (n + 1) a b c d e = ifB (decide (e < (List.length a : Int)))
 (when ((decide (0 ≤ e)) && (decide (e < (List.length a : Int)))) (when (fits 1 false (List.getD a (Int.toNat e) nilp)) (when (isStr (List.getD a (Int.toNat e) nilp)) (ifB (decide ((ByteArray.size (toStr (List.getD a (Int.toNat e) nilp)) : Int) > 5000))
 (onR (R N_law08_lives []) fun r2 => when (List.isEmpty r2.2 && allF [.fz] r2.1) (when (isBool (toF (List.getD r2.1 0 em))) (some (.ret, X_law08_WordsJoin_1_0 a b c (toBool (toF (List.getD r2.1 0 em))) d))))
 (ifB (decide (e > 0))
 (when (decide (ByteArray.size d + ByteArray.size b ≤ 2 ^ 62)) (jump w (J_law08_WordsJoin_1_0 R k w n a b c (d ++ b) e)))
 (jump w (J_law08_WordsJoin_1_0 R k w n a b c d e)))))))
 (some ((.exit 0), X_law08_WordsJoin_1_1 a b c d)) := by kernel_rfl
theorem X_law08_WordsJoin_1_0_eq (R : Orc) (k : Nat) (w : Bool) (a : List FV) (b : ByteArray) (c : Int) (d : Bool) (e : ByteArray) : K_law08_WordsJoin_1 R k w .ret (X_law08_WordsJoin_1_0 a b c d e) = some ([.fz (.bool d)], []) := by kernel_rfl
theorem J_law08_WordsJoin_1_0_eq (R : Orc) (k : Nat) (w : Bool) (n : Nat) (a : List FV) (b : ByteArray) (c : Int) (d : ByteArray) (e : Int) : J_law08_WordsJoin_1_0 R k w n a b c d e = when ((decide (0 ≤ e)) && (decide (e < (List.length a : Int)))) (when (fits 1 false (List.getD a (Int.toNat e) nilp)) (when (isStr (List.getD a (Int.toNat e) nilp)) (when (decide (ByteArray.size d + ByteArray.size (toStr (List.getD a (Int.toNat e) nilp)) ≤ 2 ^ 62)) (L_law08_WordsJoin_1_0 R k w n a b c (d ++ (toStr (List.getD a (Int.toNat e) nilp))) (IntKind.wrap .i64 (e + 1)))))) := by kernel_rfl
theorem X_law08_WordsJoin_1_1_eq (R : Orc) (k : Nat) (w : Bool) (a : List FV) (b : ByteArray) (c : Int) (d : ByteArray) : K_law08_WordsJoin_1 R k w (.exit 0) (X_law08_WordsJoin_1_1 a b c d) = onR (R N_words_Join [.fz (.sl a), .fz (.str b)]) fun r3 => when (List.isEmpty r3.2 && allF [.fz, .fz] r3.1) (when (isStr (toF (List.getD r3.1 0 em))) (when (isBool (toF (List.getD r3.1 1 em))) (ifB (!((toBool (toF (List.getD r3.1 1 em))) == (decide ((ByteArray.size d : Int) ≤ 4096))))
 (some ([.fz (.bool false)], []))
 (ifB (decide ((ByteArray.size d : Int) ≤ 4096))
 (ifB (!(ByteArray.toList (toStr (toF (List.getD r3.1 0 em))) == ByteArray.toList d))
 (some ([.fz (.bool false)], []))
 (ifB (!(decide ((ByteArray.size d : Int) ≤ 4096)))
 (ifB (!(ByteArray.toList (toStr (toF (List.getD r3.1 0 em))) == ByteArray.toList (⟨#[]⟩ : ByteArray)))
 (some ([.fz (.bool false)], []))
 (jump w (J_law08_WordsJoin_5_0 R k w b c)))
 (jump w (J_law08_WordsJoin_5_0 R k w b c))))
 (ifB (!(decide ((ByteArray.size d : Int) ≤ 4096)))
 (ifB (!(ByteArray.toList (toStr (toF (List.getD r3.1 0 em))) == ByteArray.toList (⟨#[]⟩ : ByteArray)))
 (some ([.fz (.bool false)], []))
 (jump w (J_law08_WordsJoin_5_0 R k w b c)))
 (jump w (J_law08_WordsJoin_5_0 R k w b c))))))) := by kernel_rfl
theorem J_law08_WordsJoin_5_0_eq (R : Orc) (k : Nat) (w : Bool) (a : ByteArray) (b : Int) : J_law08_WordsJoin_5_0 R k w a b = onR (R N_words_Times [.fz (.str a), .fz (.int .i64 b)]) fun r4 => when (List.isEmpty r4.2 && allF [.fz, .fz] r4.1) (when (isStr (toF (List.getD r4.1 0 em))) (when (isBool (toF (List.getD r4.1 1 em))) (onL (L_law08_WordsJoin_2_0 R k w k a b (toStr (toF (List.getD r4.1 0 em))) (toBool (toF (List.getD r4.1 1 em))) (⟨#[]⟩ : ByteArray) 0) (K_law08_WordsJoin_2 R k w)))) := by kernel_rfl
theorem L_law08_WordsJoin_2_0_eq (R : Orc) (k : Nat) (w : Bool) (n : Nat) (a : ByteArray) (b : Int) (c : ByteArray) (d : Bool) (e : ByteArray) (f : Int) : L_law08_WordsJoin_2_0 R k w (n + 1) a b c d e f = ifB (decide (f < b))
 (ifB (decide ((ByteArray.size e : Int) ≤ 4096))
 (ifB (decide ((ByteArray.size a : Int) > 0))
 (jump w (J_law08_WordsJoin_3_0 R k w n a b c d e f))
 (some ((.exit 2), X_law08_WordsJoin_2_0 c d e)))
 (some ((.exit 2), X_law08_WordsJoin_2_0 c d e)))
 (some ((.exit 2), X_law08_WordsJoin_2_0 c d e)) := by kernel_rfl
theorem J_law08_WordsJoin_3_0_eq (R : Orc) (k : Nat) (w : Bool) (n : Nat) (a : ByteArray) (b : Int) (c : ByteArray) (d : Bool) (e : ByteArray) (f : Int) : J_law08_WordsJoin_3_0 R k w n a b c d e f = when (decide (ByteArray.size e + ByteArray.size a ≤ 2 ^ 62)) (L_law08_WordsJoin_2_0 R k w n a b c d (e ++ a) (IntKind.wrap .i64 (f + 1))) := by kernel_rfl
theorem X_law08_WordsJoin_2_0_eq (R : Orc) (k : Nat) (w : Bool) (a : ByteArray) (b : Bool) (c : ByteArray) : K_law08_WordsJoin_2 R k w (.exit 2) (X_law08_WordsJoin_2_0 a b c) = ifB (decide ((ByteArray.size c : Int) > 4096))
 (ifB (ByteArray.toList a == ByteArray.toList (⟨#[]⟩ : ByteArray))
 (ifB (!b)
 (onR (R N_law08_lives []) fun r5 => when (List.isEmpty r5.2 && allF [.fz] r5.1) (when (isBool (toF (List.getD r5.1 0 em))) (some ([.fz (.bool (toBool (toF (List.getD r5.1 0 em))))], []))))
 (some ([.fz (.bool false)], [])))
 (some ([.fz (.bool false)], [])))
 (ifB (ByteArray.toList a == ByteArray.toList c)
 (ifB b
 (onR (R N_law08_lives []) fun r6 => when (List.isEmpty r6.2 && allF [.fz] r6.1) (when (isBool (toF (List.getD r6.1 0 em))) (some ([.fz (.bool (toBool (toF (List.getD r6.1 0 em))))], []))))
 (some ([.fz (.bool false)], [])))
 (some ([.fz (.bool false)], []))) := by kernel_rfl
/-! keyhole/keyholelaw08.lives -/
def C_law08_lives : ACode := codeOf 6 Try.f6
def A_law08_lives : AFunc := ⟨0, [(.tmp 0, .fz)], C_law08_lives, none⟩
theorem E_law08_lives (R : Orc) (k : Nat) (w : Bool) : callL R k w A_law08_lives [] = onR (R N_words_Split [.fz (.str (⟨#[97, 44, 98, 44, 44]⟩ : ByteArray)), .fz (.str (⟨#[44]⟩ : ByteArray))]) fun r0 => when (List.isEmpty r0.2 && allF [.fz, .fz] r0.1) (when (isBool (toF (List.getD r0.1 1 em))) (ifB (toBool (toF (List.getD r0.1 1 em)))
 (when (isSl (toF (List.getD r0.1 0 em))) (ifB ((List.length (toSl (toF (List.getD r0.1 0 em))) : Int) == 4)
 (when (isSl (toF (List.getD r0.1 0 em))) (when (decide (0 < (List.length (toSl (toF (List.getD r0.1 0 em))) : Int))) (when (fits 1 false (List.getD (toSl (toF (List.getD r0.1 0 em))) 0 nilp)) (when (isStr (List.getD (toSl (toF (List.getD r0.1 0 em))) 0 nilp)) (ifB (ByteArray.toList (toStr (List.getD (toSl (toF (List.getD r0.1 0 em))) 0 nilp)) == ByteArray.toList (⟨#[97]⟩ : ByteArray))
 (when (isSl (toF (List.getD r0.1 0 em))) (when (decide (1 < (List.length (toSl (toF (List.getD r0.1 0 em))) : Int))) (when (fits 1 false (List.getD (toSl (toF (List.getD r0.1 0 em))) 1 nilp)) (when (isStr (List.getD (toSl (toF (List.getD r0.1 0 em))) 1 nilp)) (ifB (ByteArray.toList (toStr (List.getD (toSl (toF (List.getD r0.1 0 em))) 1 nilp)) == ByteArray.toList (⟨#[98]⟩ : ByteArray))
 (when (isSl (toF (List.getD r0.1 0 em))) (when (decide (3 < (List.length (toSl (toF (List.getD r0.1 0 em))) : Int))) (when (fits 1 false (List.getD (toSl (toF (List.getD r0.1 0 em))) 3 nilp)) (when (isStr (List.getD (toSl (toF (List.getD r0.1 0 em))) 3 nilp)) (some ([.fz (.bool (ByteArray.toList (toStr (List.getD (toSl (toF (List.getD r0.1 0 em))) 3 nilp)) == ByteArray.toList (⟨#[]⟩ : ByteArray)))], []))))))
 (some ([.fz (.bool false)], [])))))))
 (some ([.fz (.bool false)], [])))))))
 (some ([.fz (.bool false)], []))))
 (some ([.fz (.bool false)], [])))) := by kernel_rfl
/-! keyhole/keyholeref03.Signs -/
def C_ref03_Signs : ACode := codeOf 7 Try.f7
def A_ref03_Signs_j1 : ACode := C_ref03_Signs.at [1, 1, 0, 1, 0, 0, 1, 0, 1, 1, 0, 1, 0]
def A_ref03_Signs_j2 : ACode := C_ref03_Signs.at [1, 1, 0, 1, 0, 0, 1, 0, 1, 1, 1, 0, 1, 0, 0, 1, 0, 0, 1, 0, 0, 1, 1, 0]
def A_ref03_Signs_s3 : ACode := C_ref03_Signs.at [1, 1, 0, 1, 0, 0, 1, 0, 1, 1, 1, 0, 1, 0, 0, 1, 0, 0, 1, 1]
def A_ref03_Signs_b1 : ACode := C_ref03_Signs.at [1, 1, 0, 1, 0, 0, 1, 0, 1, 1, 1, 0, 1, 0, 0, 1, 0, 0]
def A_ref03_Signs_j4 : ACode := C_ref03_Signs.at [1, 1, 0, 1, 0, 0, 1, 0, 1, 1, 1, 0, 1, 0, 1, 1, 0]
def A_ref03_Signs_s5 : ACode := C_ref03_Signs.at [1, 1, 0, 1, 0, 0, 1, 0, 1, 1, 1, 0, 1, 0, 1]
def A_ref03_Signs_j6 : ACode := C_ref03_Signs.at [1, 1, 0, 1, 0, 0, 1, 0, 1, 1, 1, 0, 1, 0]
def A_ref03_Signs_j7 : ACode := C_ref03_Signs.at [1, 1, 0, 1, 0, 0, 1, 0, 1, 1, 1, 0]
def A_ref03_Signs_s8 : ACode := C_ref03_Signs.at [1, 1, 0, 1, 0, 0, 1, 0, 1, 1, 1]
def A_ref03_Signs_b2 : ACode := C_ref03_Signs.at [1, 1, 0, 1, 0, 0]
def A_ref03_Signs_s9 : ACode := C_ref03_Signs.at [1, 1, 1]
def A_ref03_Signs : AFunc := ⟨1, [(.tmp 2, .fz), (.tmp 3, .fz)], C_ref03_Signs, none⟩
def K_ref03_Signs_2 (R : Orc) (k : Nat) (w : Bool) : AExit → St → Option Ans := (kBlk 0 (kSeq R k w [] A_ref03_Signs_s9 (kFin R [(.tmp 2, .fz), (.tmp 3, .fz)] [])))
def L_ref03_Signs_2_0 (R : Orc) (k : Nat) (w : Bool) (n : Nat) (a : ByteArray) (b : Int) := loopL R k w [] [0, 4, 5] [2, 3, 4] A_ref03_Signs_b2 n ⟨[(0, .fz (.str a)), (4, .nils), (5, .fz (.int .i64 b))], [(4095, .dead)]⟩
def J_ref03_Signs_1_0 (R : Orc) (k : Nat) (w : Bool) (n : Nat) (a : ByteArray) (b c d e : Int) (f : Bool) := execL R k w [] A_ref03_Signs_j1 (AExit × St) ⟨[(0, .fz (.str a)), (4, .nils), (5, .fz (.int .i64 b)), (6, .fz (.int .i64 c)), (7, .fz (.int .i64 d)), (8, .fz (.int .i64 e)), (25, .fz (.bool f))], [(4095, .dead)]⟩ (kSeq R k w [] A_ref03_Signs_s8 (kBlk 1 (kLoop R k w [] [0, 4, 5] [2, 3, 4] A_ref03_Signs_b2 n)))
def X_ref03_Signs_2_0 : St := ⟨[(4, .nils)], [(4095, .dead)]⟩
def J_ref03_Signs_7_0 (R : Orc) (k : Nat) (w : Bool) (n : Nat) (a : ByteArray) (b c d e : Int) := execL R k w [] A_ref03_Signs_j7 (AExit × St) ⟨[(0, .fz (.str a)), (4, .nils), (5, .fz (.int .i64 b)), (6, .fz (.int .i64 c)), (7, .fz (.int .i64 d)), (8, .fz (.int .i64 e))], [(4095, .dead)]⟩ (kBlk 1 (kLoop R k w [] [0, 4, 5] [2, 3, 4] A_ref03_Signs_b2 n))
def X_ref03_Signs_2_1 (a : Bool) : St := ⟨[(2, .nils), (3, .fz (.bool a)), (4, .nils)], [(4095, .dead)]⟩
def J_ref03_Signs_6_0 (R : Orc) (k : Nat) (w : Bool) (n : Nat) (a : ByteArray) (b c d : Int) := execL R k w [] A_ref03_Signs_j6 (AExit × St) ⟨[(0, .fz (.str a)), (4, .nils), (5, .fz (.int .i64 b)), (7, .fz (.int .i64 c)), (8, .fz (.int .i64 d))], [(4095, .dead)]⟩ (kBlk 1 (kLoop R k w [] [0, 4, 5] [2, 3, 4] A_ref03_Signs_b2 n))
def K_ref03_Signs_1 (R : Orc) (k : Nat) (w : Bool) (n : Nat) : AExit → St → Option (AExit × St) := (kBlk 2 (kSeq R k w [] A_ref03_Signs_s5 (kBlk 1 (kLoop R k w [] [0, 4, 5] [2, 3, 4] A_ref03_Signs_b2 n))))
def L_ref03_Signs_1_0 (R : Orc) (k : Nat) (w : Bool) (n : Nat) (a : ByteArray) (b c d e : Int) := loopL R k w [] [0, 4, 5, 7, 8, 9] [0, 2, 3, 4, 5, 7, 8] A_ref03_Signs_b1 n ⟨[(0, .fz (.str a)), (4, .nils), (5, .fz (.int .i64 b)), (7, .fz (.int .i64 c)), (8, .fz (.int .i64 d)), (9, .fz (.int .i64 e))], [(4095, .dead)]⟩
def X_ref03_Signs_1_0 (a : ByteArray) (b : Bool) (c d e : Int) : St := ⟨[(0, .fz (.str a)), (2, .nils), (3, .fz (.bool b)), (4, .nils), (5, .fz (.int .i64 c)), (7, .fz (.int .i64 d)), (8, .fz (.int .i64 e))], [(4095, .dead)]⟩
def J_ref03_Signs_2_0 (R : Orc) (k : Nat) (w : Bool) (n : Nat) (a : ByteArray) (b c d e f : Int) := execL R k w [] A_ref03_Signs_j2 (AExit × St) ⟨[(0, .fz (.str a)), (4, .nils), (5, .fz (.int .i64 b)), (7, .fz (.int .i64 c)), (8, .fz (.int .i64 d)), (9, .fz (.int .i64 e)), (10, .fz (.int .i64 f))], [(4095, .dead)]⟩ (kBlk 3 (kSeq R k w [] A_ref03_Signs_s3 (kLoop R k w [] [0, 4, 5, 7, 8, 9] [0, 2, 3, 4, 5, 7, 8] A_ref03_Signs_b1 n)))
def X_ref03_Signs_1_1 (a : ByteArray) (b c d : Int) : St := ⟨[(0, .fz (.str a)), (4, .nils), (5, .fz (.int .i64 b)), (7, .fz (.int .i64 c)), (8, .fz (.int .i64 d))], [(4095, .dead)]⟩
def J_ref03_Signs_4_0 (R : Orc) (k : Nat) (w : Bool) (n : Nat) (a : ByteArray) (b c d : Int) := execL R k w [] A_ref03_Signs_j4 (AExit × St) ⟨[(0, .fz (.str a)), (4, .nils), (5, .fz (.int .i64 b)), (7, .fz (.int .i64 c)), (8, .fz (.int .i64 d))], [(4095, .dead)]⟩ (kBlk 1 (kLoop R k w [] [0, 4, 5] [2, 3, 4] A_ref03_Signs_b2 n))
def L_ref03_Signs_2_1 (R : Orc) (k : Nat) (w : Bool) (n : Nat) (a : ByteArray) (b : Int) (c : List FV) := loopL R k w [] [0, 4, 5] [2, 3, 4] A_ref03_Signs_b2 n ⟨[(0, .fz (.str a)), (4, .rw 4096), (5, .fz (.int .i64 b))], [(4095, .dead), (4096, .row 1 false c)]⟩
def J_ref03_Signs_1_1 (R : Orc) (k : Nat) (w : Bool) (n : Nat) (a : ByteArray) (b c d e : Int) (f : Bool) (g : List FV) := execL R k w [] A_ref03_Signs_j1 (AExit × St) ⟨[(0, .fz (.str a)), (4, .rw 4096), (5, .fz (.int .i64 b)), (6, .fz (.int .i64 c)), (7, .fz (.int .i64 d)), (8, .fz (.int .i64 e)), (25, .fz (.bool f))], [(4095, .dead), (4096, .row 1 false g)]⟩ (kSeq R k w [] A_ref03_Signs_s8 (kBlk 1 (kLoop R k w [] [0, 4, 5] [2, 3, 4] A_ref03_Signs_b2 n)))
def X_ref03_Signs_2_2 (a : List FV) : St := ⟨[(4, .rw 4096)], [(4095, .dead), (4096, .row 1 false a)]⟩
def J_ref03_Signs_7_1 (R : Orc) (k : Nat) (w : Bool) (n : Nat) (a : ByteArray) (b c d e : Int) (f : List FV) := execL R k w [] A_ref03_Signs_j7 (AExit × St) ⟨[(0, .fz (.str a)), (4, .rw 4096), (5, .fz (.int .i64 b)), (6, .fz (.int .i64 c)), (7, .fz (.int .i64 d)), (8, .fz (.int .i64 e))], [(4095, .dead), (4096, .row 1 false f)]⟩ (kBlk 1 (kLoop R k w [] [0, 4, 5] [2, 3, 4] A_ref03_Signs_b2 n))
def X_ref03_Signs_2_3 (a : Bool) (b : List FV) : St := ⟨[(2, .nils), (3, .fz (.bool a)), (4, .rw 4096)], [(4095, .dead), (4096, .row 1 false b)]⟩
def J_ref03_Signs_6_1 (R : Orc) (k : Nat) (w : Bool) (n : Nat) (a : ByteArray) (b c d : Int) (e : List FV) := execL R k w [] A_ref03_Signs_j6 (AExit × St) ⟨[(0, .fz (.str a)), (4, .rw 4096), (5, .fz (.int .i64 b)), (7, .fz (.int .i64 c)), (8, .fz (.int .i64 d))], [(4095, .dead), (4096, .row 1 false e)]⟩ (kBlk 1 (kLoop R k w [] [0, 4, 5] [2, 3, 4] A_ref03_Signs_b2 n))
def L_ref03_Signs_1_1 (R : Orc) (k : Nat) (w : Bool) (n : Nat) (a : ByteArray) (b c d e : Int) (f : List FV) := loopL R k w [] [0, 4, 5, 7, 8, 9] [0, 2, 3, 4, 5, 7, 8] A_ref03_Signs_b1 n ⟨[(0, .fz (.str a)), (4, .rw 4096), (5, .fz (.int .i64 b)), (7, .fz (.int .i64 c)), (8, .fz (.int .i64 d)), (9, .fz (.int .i64 e))], [(4095, .dead), (4096, .row 1 false f)]⟩
def X_ref03_Signs_1_2 (a : ByteArray) (b : Bool) (c d e : Int) (f : List FV) : St := ⟨[(0, .fz (.str a)), (2, .nils), (3, .fz (.bool b)), (4, .rw 4096), (5, .fz (.int .i64 c)), (7, .fz (.int .i64 d)), (8, .fz (.int .i64 e))], [(4095, .dead), (4096, .row 1 false f)]⟩
def J_ref03_Signs_2_1 (R : Orc) (k : Nat) (w : Bool) (n : Nat) (a : ByteArray) (b c d e f : Int) (g : List FV) := execL R k w [] A_ref03_Signs_j2 (AExit × St) ⟨[(0, .fz (.str a)), (4, .rw 4096), (5, .fz (.int .i64 b)), (7, .fz (.int .i64 c)), (8, .fz (.int .i64 d)), (9, .fz (.int .i64 e)), (10, .fz (.int .i64 f))], [(4095, .dead), (4096, .row 1 false g)]⟩ (kBlk 3 (kSeq R k w [] A_ref03_Signs_s3 (kLoop R k w [] [0, 4, 5, 7, 8, 9] [0, 2, 3, 4, 5, 7, 8] A_ref03_Signs_b1 n)))
def X_ref03_Signs_1_3 (a : ByteArray) (b c d : Int) (e : List FV) : St := ⟨[(0, .fz (.str a)), (4, .rw 4096), (5, .fz (.int .i64 b)), (7, .fz (.int .i64 c)), (8, .fz (.int .i64 d))], [(4095, .dead), (4096, .row 1 false e)]⟩
def J_ref03_Signs_4_1 (R : Orc) (k : Nat) (w : Bool) (n : Nat) (a : ByteArray) (b c d : Int) (e : List FV) := execL R k w [] A_ref03_Signs_j4 (AExit × St) ⟨[(0, .fz (.str a)), (4, .rw 4096), (5, .fz (.int .i64 b)), (7, .fz (.int .i64 c)), (8, .fz (.int .i64 d))], [(4095, .dead), (4096, .row 1 false e)]⟩ (kBlk 1 (kLoop R k w [] [0, 4, 5] [2, 3, 4] A_ref03_Signs_b2 n))
theorem E_ref03_Signs (R : Orc) (k : Nat) (w : Bool) (a : ByteArray) : callL R k w A_ref03_Signs [.fz (.str a)] = onL (L_ref03_Signs_2_0 R k w k a 0) (K_ref03_Signs_2 R k w) := by kernel_rfl
theorem L_ref03_Signs_2_0_eq (R : Orc) (k : Nat) (w : Bool) (n : Nat) (a : ByteArray) (b : Int) : L_ref03_Signs_2_0 R k w (n + 1) a b = ifB (decide (b < (ByteArray.size a : Int)))
 (when ((decide (0 ≤ b)) && (decide (b < (ByteArray.size a : Int)))) (ifB (decide ((IntKind.wrap .i64 (((Array.getD (ByteArray.data a) (Int.toNat b) 0).toNat : Nat) : Int)) ≥ 240))
 (jump w (J_ref03_Signs_1_0 R k w n a b (IntKind.wrap .i64 (((Array.getD (ByteArray.data a) (Int.toNat b) 0).toNat : Nat) : Int)) 1 (IntKind.wrap .i64 (((Array.getD (ByteArray.data a) (Int.toNat b) 0).toNat : Nat) : Int)) (decide ((IntKind.wrap .i64 (((Array.getD (ByteArray.data a) (Int.toNat b) 0).toNat : Nat) : Int)) < 248))))
 (jump w (J_ref03_Signs_1_0 R k w n a b (IntKind.wrap .i64 (((Array.getD (ByteArray.data a) (Int.toNat b) 0).toNat : Nat) : Int)) 1 (IntKind.wrap .i64 (((Array.getD (ByteArray.data a) (Int.toNat b) 0).toNat : Nat) : Int)) false))))
 (some ((.exit 0), X_ref03_Signs_2_0)) := by kernel_rfl
theorem J_ref03_Signs_1_0_eq (R : Orc) (k : Nat) (w : Bool) (n : Nat) (a : ByteArray) (b c d e : Int) (f : Bool) : J_ref03_Signs_1_0 R k w n a b c d e f = ifB f
 (jump w (J_ref03_Signs_7_0 R k w n a b c 4 (IntKind.wrap .i64 (c - 240))))
 (ifB (decide (c ≥ 224))
 (jump w (J_ref03_Signs_7_0 R k w n a b c 3 (IntKind.wrap .i64 (c - 224))))
 (ifB (decide (c ≥ 192))
 (jump w (J_ref03_Signs_7_0 R k w n a b c 2 (IntKind.wrap .i64 (c - 192))))
 (jump w (J_ref03_Signs_7_0 R k w n a b c d e)))) := by kernel_rfl
theorem X_ref03_Signs_2_0_eq (R : Orc) (k : Nat) (w : Bool) : K_ref03_Signs_2 R k w (.exit 0) (X_ref03_Signs_2_0) = some ([.fz (.sl []), .fz (.bool true)], []) := by kernel_rfl
theorem J_ref03_Signs_7_0_eq (R : Orc) (k : Nat) (w : Bool) (n : Nat) (a : ByteArray) (b c d e : Int) : J_ref03_Signs_7_0 R k w n a b c d e = ifB (decide (c ≥ 248))
 (some (.ret, X_ref03_Signs_2_1 false))
 (ifB (decide (c ≥ 128))
 (ifB (decide (c < 192))
 (some (.ret, X_ref03_Signs_2_1 false))
 (ifB (decide ((IntKind.wrap .i64 (b + d)) > (ByteArray.size a : Int)))
 (some (.ret, X_ref03_Signs_2_1 false))
 (jump w (J_ref03_Signs_6_0 R k w n a b d e))))
 (ifB (decide ((IntKind.wrap .i64 (b + d)) > (ByteArray.size a : Int)))
 (some (.ret, X_ref03_Signs_2_1 false))
 (jump w (J_ref03_Signs_6_0 R k w n a b d e)))) := by kernel_rfl
theorem X_ref03_Signs_2_1_eq (R : Orc) (k : Nat) (w a : Bool) : K_ref03_Signs_2 R k w .ret (X_ref03_Signs_2_1 a) = some ([.fz (.sl []), .fz (.bool a)], []) := by kernel_rfl
theorem J_ref03_Signs_6_0_eq (R : Orc) (k : Nat) (w : Bool) (n : Nat) (a : ByteArray) (b c d : Int) : J_ref03_Signs_6_0 R k w n a b c d = onL (L_ref03_Signs_1_0 R k w k a b c d 1) (K_ref03_Signs_1 R k w n) := by kernel_rfl
theorem L_ref03_Signs_1_0_eq (R : Orc) (k : Nat) (w : Bool) (n : Nat) (a : ByteArray) (b c d e : Int) : L_ref03_Signs_1_0 R k w (n + 1) a b c d e = ifB (decide (e < c))
 (when ((decide (0 ≤ (IntKind.wrap .i64 (b + e)))) && (decide ((IntKind.wrap .i64 (b + e)) < (ByteArray.size a : Int)))) (ifB (decide ((IntKind.wrap .i64 (((Array.getD (ByteArray.data a) (Int.toNat (IntKind.wrap .i64 (b + e))) 0).toNat : Nat) : Int)) < 128))
 (some (.ret, X_ref03_Signs_1_0 a false b c d))
 (ifB (decide ((IntKind.wrap .i64 (((Array.getD (ByteArray.data a) (Int.toNat (IntKind.wrap .i64 (b + e))) 0).toNat : Nat) : Int)) > 191))
 (some (.ret, X_ref03_Signs_1_0 a false b c d))
 (jump w (J_ref03_Signs_2_0 R k w n a b c d e (IntKind.wrap .i64 (((Array.getD (ByteArray.data a) (Int.toNat (IntKind.wrap .i64 (b + e))) 0).toNat : Nat) : Int)))))))
 (some ((.exit 2), X_ref03_Signs_1_1 a b c d)) := by kernel_rfl
theorem X_ref03_Signs_1_0_eq (R : Orc) (k : Nat) (w : Bool) (n : Nat) (a : ByteArray) (b : Bool) (c d e : Int) : K_ref03_Signs_1 R k w n .ret (X_ref03_Signs_1_0 a b c d e) = some (.ret, X_ref03_Signs_2_1 b) := by kernel_rfl
theorem J_ref03_Signs_2_0_eq (R : Orc) (k : Nat) (w : Bool) (n : Nat) (a : ByteArray) (b c d e f : Int) : J_ref03_Signs_2_0 R k w n a b c d e f = L_ref03_Signs_1_0 R k w n a b c (IntKind.wrap .i64 ((IntKind.wrap .i64 ((IntKind.wrap .i64 (64 * d)) + f)) - 128)) (IntKind.wrap .i64 (e + 1)) := by kernel_rfl
theorem X_ref03_Signs_1_1_eq (R : Orc) (k : Nat) (w : Bool) (n : Nat) (a : ByteArray) (b c d : Int) : K_ref03_Signs_1 R k w n (.exit 2) (X_ref03_Signs_1_1 a b c d) = ifB (decide (d > 1114111))
 (some (.ret, X_ref03_Signs_2_1 false))
 (ifB (decide (d ≥ 55296))
 (ifB (decide (d < 57344))
 (some (.ret, X_ref03_Signs_2_1 false))
 (onR (R N_ref03_Put [.fz (.int .i64 d)]) fun r0 => when (List.isEmpty r0.2 && allF [.fz] r0.1) (when ((isSl (toF (List.getD r0.1 0 em))) && (List.all (toSl (toF (List.getD r0.1 0 em))) (fits 1 false))) (when (List.all (toSl (toF (List.getD r0.1 0 em))) (isInt .u8)) (when (decide (0 ≤ (IntKind.wrap .i64 (b + c))) && decide ((IntKind.wrap .i64 (b + c)) ≤ (ByteArray.size a : Int))) (when (decide (0 ≤ b) && decide (b ≤ (IntKind.wrap .i64 (b + c)))) (ifB (!(ByteArray.toList (⟨(List.map (fun e => UInt8.ofNat (toInt e).toNat) (toSl (toF (List.getD r0.1 0 em)))).toArray⟩ : ByteArray) == ByteArray.toList (ByteArray.extract a (Int.toNat b) (Int.toNat (IntKind.wrap .i64 (b + c))))))
 (some (.ret, X_ref03_Signs_2_1 false))
 (jump w (J_ref03_Signs_4_0 R k w n a b c d)))))))))
 (onR (R N_ref03_Put [.fz (.int .i64 d)]) fun r1 => when (List.isEmpty r1.2 && allF [.fz] r1.1) (when ((isSl (toF (List.getD r1.1 0 em))) && (List.all (toSl (toF (List.getD r1.1 0 em))) (fits 1 false))) (when (List.all (toSl (toF (List.getD r1.1 0 em))) (isInt .u8)) (when (decide (0 ≤ (IntKind.wrap .i64 (b + c))) && decide ((IntKind.wrap .i64 (b + c)) ≤ (ByteArray.size a : Int))) (when (decide (0 ≤ b) && decide (b ≤ (IntKind.wrap .i64 (b + c)))) (ifB (!(ByteArray.toList (⟨(List.map (fun e => UInt8.ofNat (toInt e).toNat) (toSl (toF (List.getD r1.1 0 em)))).toArray⟩ : ByteArray) == ByteArray.toList (ByteArray.extract a (Int.toNat b) (Int.toNat (IntKind.wrap .i64 (b + c))))))
 (some (.ret, X_ref03_Signs_2_1 false))
 (jump w (J_ref03_Signs_4_0 R k w n a b c d))))))))) := by kernel_rfl
theorem J_ref03_Signs_4_0_eq (R : Orc) (k : Nat) (w : Bool) (n : Nat) (a : ByteArray) (b c d : Int) : J_ref03_Signs_4_0 R k w n a b c d = when (decide (((0 : Nat) + List.length [FV.int .i64 d]) * 8 ≤ roomy) && decide ((0 : Nat) + List.length [FV.int .i64 d] ≤ roomy)) (L_ref03_Signs_2_1 R k w n a (IntKind.wrap .i64 (b + c)) [.int .i64 d]) := by kernel_rfl
theorem L_ref03_Signs_2_1_eq (R : Orc) (k : Nat) (w : Bool) (n : Nat) (a : ByteArray) (b : Int) (c : List FV) : L_ref03_Signs_2_1 R k w (n + 1) a b c = ifB (decide (b < (ByteArray.size a : Int)))
 (when ((decide (0 ≤ b)) && (decide (b < (ByteArray.size a : Int)))) (ifB (decide ((IntKind.wrap .i64 (((Array.getD (ByteArray.data a) (Int.toNat b) 0).toNat : Nat) : Int)) ≥ 240))
 (jump w (J_ref03_Signs_1_1 R k w n a b (IntKind.wrap .i64 (((Array.getD (ByteArray.data a) (Int.toNat b) 0).toNat : Nat) : Int)) 1 (IntKind.wrap .i64 (((Array.getD (ByteArray.data a) (Int.toNat b) 0).toNat : Nat) : Int)) (decide ((IntKind.wrap .i64 (((Array.getD (ByteArray.data a) (Int.toNat b) 0).toNat : Nat) : Int)) < 248)) c))
 (jump w (J_ref03_Signs_1_1 R k w n a b (IntKind.wrap .i64 (((Array.getD (ByteArray.data a) (Int.toNat b) 0).toNat : Nat) : Int)) 1 (IntKind.wrap .i64 (((Array.getD (ByteArray.data a) (Int.toNat b) 0).toNat : Nat) : Int)) false c))))
 (some ((.exit 0), X_ref03_Signs_2_2 c)) := by kernel_rfl
theorem J_ref03_Signs_1_1_eq (R : Orc) (k : Nat) (w : Bool) (n : Nat) (a : ByteArray) (b c d e : Int) (f : Bool) (g : List FV) : J_ref03_Signs_1_1 R k w n a b c d e f g = ifB f
 (jump w (J_ref03_Signs_7_1 R k w n a b c 4 (IntKind.wrap .i64 (c - 240)) g))
 (ifB (decide (c ≥ 224))
 (jump w (J_ref03_Signs_7_1 R k w n a b c 3 (IntKind.wrap .i64 (c - 224)) g))
 (ifB (decide (c ≥ 192))
 (jump w (J_ref03_Signs_7_1 R k w n a b c 2 (IntKind.wrap .i64 (c - 192)) g))
 (jump w (J_ref03_Signs_7_1 R k w n a b c d e g)))) := by kernel_rfl
theorem X_ref03_Signs_2_2_eq (R : Orc) (k : Nat) (w : Bool) (a : List FV) : K_ref03_Signs_2 R k w (.exit 0) (X_ref03_Signs_2_2 a) = some ([.fz (.sl a), .fz (.bool true)], []) := by kernel_rfl
theorem J_ref03_Signs_7_1_eq (R : Orc) (k : Nat) (w : Bool) (n : Nat) (a : ByteArray) (b c d e : Int) (f : List FV) : J_ref03_Signs_7_1 R k w n a b c d e f = ifB (decide (c ≥ 248))
 (some (.ret, X_ref03_Signs_2_3 false f))
 (ifB (decide (c ≥ 128))
 (ifB (decide (c < 192))
 (some (.ret, X_ref03_Signs_2_3 false f))
 (ifB (decide ((IntKind.wrap .i64 (b + d)) > (ByteArray.size a : Int)))
 (some (.ret, X_ref03_Signs_2_3 false f))
 (jump w (J_ref03_Signs_6_1 R k w n a b d e f))))
 (ifB (decide ((IntKind.wrap .i64 (b + d)) > (ByteArray.size a : Int)))
 (some (.ret, X_ref03_Signs_2_3 false f))
 (jump w (J_ref03_Signs_6_1 R k w n a b d e f)))) := by kernel_rfl
theorem X_ref03_Signs_2_3_eq (R : Orc) (k : Nat) (w a : Bool) (b : List FV) : K_ref03_Signs_2 R k w .ret (X_ref03_Signs_2_3 a b) = some ([.fz (.sl []), .fz (.bool a)], []) := by kernel_rfl
theorem J_ref03_Signs_6_1_eq (R : Orc) (k : Nat) (w : Bool) (n : Nat) (a : ByteArray) (b c d : Int) (e : List FV) : J_ref03_Signs_6_1 R k w n a b c d e = onL (L_ref03_Signs_1_1 R k w k a b c d 1 e) (K_ref03_Signs_1 R k w n) := by kernel_rfl
theorem L_ref03_Signs_1_1_eq (R : Orc) (k : Nat) (w : Bool) (n : Nat) (a : ByteArray) (b c d e : Int) (f : List FV) : L_ref03_Signs_1_1 R k w (n + 1) a b c d e f = ifB (decide (e < c))
 (when ((decide (0 ≤ (IntKind.wrap .i64 (b + e)))) && (decide ((IntKind.wrap .i64 (b + e)) < (ByteArray.size a : Int)))) (ifB (decide ((IntKind.wrap .i64 (((Array.getD (ByteArray.data a) (Int.toNat (IntKind.wrap .i64 (b + e))) 0).toNat : Nat) : Int)) < 128))
 (some (.ret, X_ref03_Signs_1_2 a false b c d f))
 (ifB (decide ((IntKind.wrap .i64 (((Array.getD (ByteArray.data a) (Int.toNat (IntKind.wrap .i64 (b + e))) 0).toNat : Nat) : Int)) > 191))
 (some (.ret, X_ref03_Signs_1_2 a false b c d f))
 (jump w (J_ref03_Signs_2_1 R k w n a b c d e (IntKind.wrap .i64 (((Array.getD (ByteArray.data a) (Int.toNat (IntKind.wrap .i64 (b + e))) 0).toNat : Nat) : Int)) f)))))
 (some ((.exit 2), X_ref03_Signs_1_3 a b c d f)) := by kernel_rfl
theorem X_ref03_Signs_1_2_eq (R : Orc) (k : Nat) (w : Bool) (n : Nat) (a : ByteArray) (b : Bool) (c d e : Int) (f : List FV) : K_ref03_Signs_1 R k w n .ret (X_ref03_Signs_1_2 a b c d e f) = some (.ret, X_ref03_Signs_2_3 b f) := by kernel_rfl
theorem J_ref03_Signs_2_1_eq (R : Orc) (k : Nat) (w : Bool) (n : Nat) (a : ByteArray) (b c d e f : Int) (g : List FV) : J_ref03_Signs_2_1 R k w n a b c d e f g = L_ref03_Signs_1_1 R k w n a b c (IntKind.wrap .i64 ((IntKind.wrap .i64 ((IntKind.wrap .i64 (64 * d)) + f)) - 128)) (IntKind.wrap .i64 (e + 1)) g := by kernel_rfl
theorem X_ref03_Signs_1_3_eq (R : Orc) (k : Nat) (w : Bool) (n : Nat) (a : ByteArray) (b c d : Int) (f : List FV) : K_ref03_Signs_1 R k w n (.exit 2) (X_ref03_Signs_1_3 a b c d f) = ifB (decide (d > 1114111))
 (some (.ret, X_ref03_Signs_2_3 false f))
 (ifB (decide (d ≥ 55296))
 (ifB (decide (d < 57344))
 (some (.ret, X_ref03_Signs_2_3 false f))
 (onR (R N_ref03_Put [.fz (.int .i64 d)]) fun r2 => when (List.isEmpty r2.2 && allF [.fz] r2.1) (when ((isSl (toF (List.getD r2.1 0 em))) && (List.all (toSl (toF (List.getD r2.1 0 em))) (fits 1 false))) (when (List.all (toSl (toF (List.getD r2.1 0 em))) (isInt .u8)) (when (decide (0 ≤ (IntKind.wrap .i64 (b + c))) && decide ((IntKind.wrap .i64 (b + c)) ≤ (ByteArray.size a : Int))) (when (decide (0 ≤ b) && decide (b ≤ (IntKind.wrap .i64 (b + c)))) (ifB (!(ByteArray.toList (⟨(List.map (fun e => UInt8.ofNat (toInt e).toNat) (toSl (toF (List.getD r2.1 0 em)))).toArray⟩ : ByteArray) == ByteArray.toList (ByteArray.extract a (Int.toNat b) (Int.toNat (IntKind.wrap .i64 (b + c))))))
 (some (.ret, X_ref03_Signs_2_3 false f))
 (jump w (J_ref03_Signs_4_1 R k w n a b c d f)))))))))
 (onR (R N_ref03_Put [.fz (.int .i64 d)]) fun r3 => when (List.isEmpty r3.2 && allF [.fz] r3.1) (when ((isSl (toF (List.getD r3.1 0 em))) && (List.all (toSl (toF (List.getD r3.1 0 em))) (fits 1 false))) (when (List.all (toSl (toF (List.getD r3.1 0 em))) (isInt .u8)) (when (decide (0 ≤ (IntKind.wrap .i64 (b + c))) && decide ((IntKind.wrap .i64 (b + c)) ≤ (ByteArray.size a : Int))) (when (decide (0 ≤ b) && decide (b ≤ (IntKind.wrap .i64 (b + c)))) (ifB (!(ByteArray.toList (⟨(List.map (fun e => UInt8.ofNat (toInt e).toNat) (toSl (toF (List.getD r3.1 0 em)))).toArray⟩ : ByteArray) == ByteArray.toList (ByteArray.extract a (Int.toNat b) (Int.toNat (IntKind.wrap .i64 (b + c))))))
 (some (.ret, X_ref03_Signs_2_3 false f))
 (jump w (J_ref03_Signs_4_1 R k w n a b c d f))))))))) := by kernel_rfl
theorem J_ref03_Signs_4_1_eq (R : Orc) (k : Nat) (w : Bool) (n : Nat) (a : ByteArray) (b c d : Int) (e : List FV) : J_ref03_Signs_4_1 R k w n a b c d e = when (decide ((List.length e + List.length [FV.int .i64 d]) * 8 ≤ roomy) && decide (List.length e + List.length [FV.int .i64 d] ≤ roomy)) (L_ref03_Signs_2_1 R k w n a (IntKind.wrap .i64 (b + c)) (e ++ [FV.int .i64 d])) := by kernel_rfl
/-! keyhole/keyholeref03.Put -/
def C_ref03_Put : ACode := codeOf 8 Try.f8
def A_ref03_Put : AFunc := ⟨1, [(.tmp 2, .fz)], C_ref03_Put, none⟩
theorem E_ref03_Put (R : Orc) (k : Nat) (w : Bool) (a : Int) : callL R k w A_ref03_Put [.fz (.int .i64 a)] = ifB (decide (a < 128))
 (some ([.fz (.sl [(.int .u8 (IntKind.wrap .u8 a))])], []))
 (ifB (decide (a < 2048))
 (some ([.fz (.sl [(.int .u8 (IntKind.wrap .u8 (IntKind.wrap .i64 (192 + (IntKind.wrap .i64 (Int.tdiv a 64)))))), (.int .u8 (IntKind.wrap .u8 (IntKind.wrap .i64 (128 + (Int.tmod a 64)))))])], []))
 (ifB (decide (a < 65536))
 (some ([.fz (.sl [(.int .u8 (IntKind.wrap .u8 (IntKind.wrap .i64 (224 + (IntKind.wrap .i64 (Int.tdiv a 4096)))))), (.int .u8 (IntKind.wrap .u8 (IntKind.wrap .i64 (128 + (Int.tmod (IntKind.wrap .i64 (Int.tdiv a 64)) 64))))), (.int .u8 (IntKind.wrap .u8 (IntKind.wrap .i64 (128 + (Int.tmod a 64)))))])], []))
 (some ([.fz (.sl [(.int .u8 (IntKind.wrap .u8 (IntKind.wrap .i64 (240 + (IntKind.wrap .i64 (Int.tdiv a 262144)))))), (.int .u8 (IntKind.wrap .u8 (IntKind.wrap .i64 (128 + (Int.tmod (IntKind.wrap .i64 (Int.tdiv a 4096)) 64))))), (.int .u8 (IntKind.wrap .u8 (IntKind.wrap .i64 (128 + (Int.tmod (IntKind.wrap .i64 (Int.tdiv a 64)) 64))))), (.int .u8 (IntKind.wrap .u8 (IntKind.wrap .i64 (128 + (Int.tmod a 64)))))])], [])))) := by kernel_rfl
/-! keyhole/keyholelaw08.at -/
def C_law08_at : ACode := codeOf 9 Try.f9
def A_law08_at : AFunc := ⟨3, [(.tmp 6, .fz)], C_law08_at, none⟩
theorem E_law08_at (R : Orc) (k : Nat) (w : Bool) (a b : ByteArray) (c : Int) : callL R k w A_law08_at [.fz (.str a), .fz (.str b), .fz (.int .i64 c)] = ifB (decide (c ≥ 0))
 (ifB (decide ((IntKind.wrap .i64 (c + (ByteArray.size b : Int))) ≤ (ByteArray.size a : Int)))
 (when (decide (0 ≤ (IntKind.wrap .i64 (c + (ByteArray.size b : Int)))) && decide ((IntKind.wrap .i64 (c + (ByteArray.size b : Int))) ≤ (ByteArray.size a : Int))) (when (decide (0 ≤ c) && decide (c ≤ (IntKind.wrap .i64 (c + (ByteArray.size b : Int))))) (some ([.fz (.bool (ByteArray.toList (ByteArray.extract a (Int.toNat c) (Int.toNat (IntKind.wrap .i64 (c + (ByteArray.size b : Int))))) == ByteArray.toList b))], []))))
 (some ([.fz (.bool false)], [])))
 (some ([.fz (.bool false)], [])) := by kernel_rfl
/-! keyhole/words.Split -/
def C_words_Split : ACode := codeOf 10 Try.f10
def A_words_Split_b1 : ACode := C_words_Split.at [1, 1, 1, 0, 0, 0]
def A_words_Split_s1 : ACode := C_words_Split.at [1, 1, 1, 1]
def A_words_Split : AFunc := ⟨2, [(.tmp 4, .fz), (.tmp 5, .fz)], C_words_Split, none⟩
def K_words_Split_1 (R : Orc) (k : Nat) (w : Bool) : AExit → St → Option Ans := (kBlk 0 (kSeq R k w [] A_words_Split_s1 (kFin R [(.tmp 4, .fz), (.tmp 5, .fz)] [])))
def L_words_Split_1_0 (R : Orc) (k : Nat) (w : Bool) (n : Nat) (a b : ByteArray) := loopL R k w [] [0, 1, 6] [4, 5] A_words_Split_b1 n ⟨[(0, .fz (.str a)), (1, .fz (.str b)), (6, .nils)], [(4095, .dead)]⟩
def X_words_Split_1_0 (a : Bool) (b : List FV) : St := ⟨[(4, .rw 4096), (5, .fz (.bool a))], [(4095, .dead), (4096, .row 1 false b)]⟩
def L_words_Split_1_1 (R : Orc) (k : Nat) (w : Bool) (n : Nat) (a b : ByteArray) (c : List FV) := loopL R k w [] [0, 1, 6] [4, 5] A_words_Split_b1 n ⟨[(0, .fz (.str a)), (1, .fz (.str b)), (6, .rw 4096)], [(4095, .dead), (4096, .row 1 false c)]⟩
def X_words_Split_1_1 : St := ⟨[], [(4095, .dead)]⟩
theorem E_words_Split (R : Orc) (k : Nat) (w : Bool) (a b : ByteArray) : callL R k w A_words_Split [.fz (.str a), .fz (.str b)] = ifB (ByteArray.toList b == ByteArray.toList (⟨#[]⟩ : ByteArray))
 (onR (R N_words_signs [.fz (.str a)]) fun r0 => when (List.isEmpty r0.2 && allF [.fz, .fz] r0.1) (when (isBool (toF (List.getD r0.1 1 em))) (some ([.fz (toF (List.getD r0.1 0 em)), .fz (.bool (toBool (toF (List.getD r0.1 1 em))))], []))))
 (onL (L_words_Split_1_0 R k w k a b) (K_words_Split_1 R k w)) := by kernel_rfl
theorem L_words_Split_1_0_eq (R : Orc) (k : Nat) (w : Bool) (n : Nat) (a b : ByteArray) : L_words_Split_1_0 R k w (n + 1) a b = onR (R N_strings_Cut [.fz (.str a), .fz (.str b)]) fun r1 => when (List.isEmpty r1.2 && allF [.fz, .fz, .fz] r1.1) (when (isStr (toF (List.getD r1.1 0 em))) (when (isStr (toF (List.getD r1.1 1 em))) (when (isBool (toF (List.getD r1.1 2 em))) (when (decide (((0 : Nat) + List.length [(FV.str (toStr (toF (List.getD r1.1 0 em))))]) * 16 ≤ roomy) && decide ((0 : Nat) + List.length [(FV.str (toStr (toF (List.getD r1.1 0 em))))] ≤ roomy)) (ifB (!(toBool (toF (List.getD r1.1 2 em))))
 (some (.ret, X_words_Split_1_0 true [(.str (toStr (toF (List.getD r1.1 0 em))))]))
 (L_words_Split_1_1 R k w n (toStr (toF (List.getD r1.1 1 em))) b [(.str (toStr (toF (List.getD r1.1 0 em))))])))))) := by kernel_rfl
theorem X_words_Split_1_0_eq (R : Orc) (k : Nat) (w a : Bool) (b : List FV) : K_words_Split_1 R k w .ret (X_words_Split_1_0 a b) = some ([.fz (.sl b), .fz (.bool a)], []) := by kernel_rfl
theorem L_words_Split_1_1_eq (R : Orc) (k : Nat) (w : Bool) (n : Nat) (a b : ByteArray) (c : List FV) : L_words_Split_1_1 R k w (n + 1) a b c = ifB (decide ((List.length c : Int) < 4096))
 (onR (R N_strings_Cut [.fz (.str a), .fz (.str b)]) fun r2 => when (List.isEmpty r2.2 && allF [.fz, .fz, .fz] r2.1) (when (isStr (toF (List.getD r2.1 0 em))) (when (isStr (toF (List.getD r2.1 1 em))) (when (isBool (toF (List.getD r2.1 2 em))) (when (decide ((List.length c + List.length [(FV.str (toStr (toF (List.getD r2.1 0 em))))]) * 16 ≤ roomy) && decide (List.length c + List.length [(FV.str (toStr (toF (List.getD r2.1 0 em))))] ≤ roomy)) (ifB (!(toBool (toF (List.getD r2.1 2 em))))
 (some (.ret, X_words_Split_1_0 true (c ++ [(FV.str (toStr (toF (List.getD r2.1 0 em))))])))
 (L_words_Split_1_1 R k w n (toStr (toF (List.getD r2.1 1 em))) b (c ++ [(FV.str (toStr (toF (List.getD r2.1 0 em))))]))))))))
 (some ((.exit 0), X_words_Split_1_1)) := by kernel_rfl
theorem X_words_Split_1_1_eq (R : Orc) (k : Nat) (w : Bool) : K_words_Split_1 R k w (.exit 0) (X_words_Split_1_1) = some ([.fz (.sl []), .fz (.bool false)], []) := by kernel_rfl
/-! keyhole/words.Has -/
def C_words_Has : ACode := codeOf 11 Try.f11
def A_words_Has : AFunc := ⟨2, [(.tmp 4, .fz)], C_words_Has, none⟩
theorem E_words_Has (R : Orc) (k : Nat) (w : Bool) (a b : ByteArray) : callL R k w A_words_Has [.fz (.str a), .fz (.str b)] = onR (R N_strings_Index [.fz (.str a), .fz (.str b)]) fun r0 => when (List.isEmpty r0.2 && allF [.fz] r0.1) (when (isInt .i64 (toF (List.getD r0.1 0 em))) (some ([.fz (.bool (decide ((toInt (toF (List.getD r0.1 0 em))) ≥ 0)))], []))) := by kernel_rfl
/-! keyhole/words.Join -/
def C_words_Join : ACode := codeOf 12 Try.f12
def A_words_Join_j1 : ACode := C_words_Join.at [1, 1, 0, 1, 0, 0, 1, 1, 0, 0, 1, 1, 0]
def A_words_Join_s2 : ACode := C_words_Join.at [1, 1, 0, 1, 0, 0, 1, 1, 1]
def A_words_Join_b1 : ACode := C_words_Join.at [1, 1, 0, 1, 0, 0]
def A_words_Join_s3 : ACode := C_words_Join.at [1, 1, 1]
def A_words_Join : AFunc := ⟨2, [(.tmp 4, .fz), (.tmp 5, .fz)], C_words_Join, none⟩
def K_words_Join_1 (R : Orc) (k : Nat) (w : Bool) : AExit → St → Option Ans := (kBlk 0 (kSeq R k w [] A_words_Join_s3 (kFin R [(.tmp 4, .fz), (.tmp 5, .fz)] [])))
def L_words_Join_1_0 (R : Orc) (k : Nat) (w : Bool) (n : Nat) (a : List FV) (b : ByteArray) (c : Int) (d : List FV) (e f : Int) := loopL R k w [] [0, 1, 6, 9, 10, 11] [0, 1, 4, 5] A_words_Join_b1 n ⟨[(0, .fz (.sl a)), (1, .fz (.str b)), (6, .fz (.int .i64 c)), (9, .fz (.sl d)), (10, .fz (.int .i64 e)), (11, .fz (.int .i64 f))], [(4095, .dead)]⟩
def J_words_Join_1_0 (R : Orc) (k : Nat) (w : Bool) (n : Nat) (a : List FV) (b : ByteArray) (c : Int) (d : ByteArray) (e : List FV) (f g : Int) := execL R k w [] A_words_Join_j1 (AExit × St) ⟨[(0, .fz (.sl a)), (1, .fz (.str b)), (6, .fz (.int .i64 c)), (8, .fz (.str d)), (9, .fz (.sl e)), (10, .fz (.int .i64 f)), (11, .fz (.int .i64 g))], [(4095, .dead)]⟩ (kBlk 1 (kSeq R k w [] A_words_Join_s2 (kLoop R k w [] [0, 1, 6, 9, 10, 11] [0, 1, 4, 5] A_words_Join_b1 n)))
def X_words_Join_1_0 (a : List FV) (b : ByteArray) : St := ⟨[(0, .fz (.sl a)), (1, .fz (.str b))], [(4095, .dead)]⟩
def X_words_Join_1_1 (a : List FV) (b c : ByteArray) (d : Bool) : St := ⟨[(0, .fz (.sl a)), (1, .fz (.str b)), (4, .fz (.str c)), (5, .fz (.bool d))], [(4095, .dead)]⟩
theorem E_words_Join (R : Orc) (k : Nat) (w : Bool) (a : List FV) (b : ByteArray) : callL R k w A_words_Join [.fz (.sl a), .fz (.str b)] = onL (L_words_Join_1_0 R k w k a b 4096 a (List.length a : Int) 0) (K_words_Join_1 R k w) := by kernel_rfl
theorem L_words_Join_1_0_eq (R : Orc) (k : Nat) (w : Bool) (n : Nat) (a : List FV) (b : ByteArray) (c : Int) (d : List FV) (e f : Int) : L_words_Join_1_0 R k w (n + 1) a b c d e f = ifB (decide (f < e))
 (when ((decide (0 ≤ f)) && (decide (f < (List.length d : Int)))) (when (fits 1 false (List.getD d (Int.toNat f) nilp)) (when (isStr (List.getD d (Int.toNat f) nilp)) (ifB (decide (f > 0))
 (jump w (J_words_Join_1_0 R k w n a b (IntKind.wrap .i64 (c - (ByteArray.size b : Int))) (toStr (List.getD d (Int.toNat f) nilp)) d e f))
 (jump w (J_words_Join_1_0 R k w n a b c (toStr (List.getD d (Int.toNat f) nilp)) d e f))))))
 (some ((.exit 0), X_words_Join_1_0 a b)) := by kernel_rfl
theorem J_words_Join_1_0_eq (R : Orc) (k : Nat) (w : Bool) (n : Nat) (a : List FV) (b : ByteArray) (c : Int) (d : ByteArray) (e : List FV) (f g : Int) : J_words_Join_1_0 R k w n a b c d e f g = ifB (decide ((IntKind.wrap .i64 (c - (ByteArray.size d : Int))) < 0))
 (some (.ret, X_words_Join_1_1 a b (⟨#[]⟩ : ByteArray) false))
 (L_words_Join_1_0 R k w n a b (IntKind.wrap .i64 (c - (ByteArray.size d : Int))) e f (IntKind.wrap .i64 (g + 1))) := by kernel_rfl
theorem X_words_Join_1_0_eq (R : Orc) (k : Nat) (w : Bool) (a : List FV) (b : ByteArray) : K_words_Join_1 R k w (.exit 0) (X_words_Join_1_0 a b) = onR (R N_strings_Join [.fz (.sl a), .fz (.str b)]) fun r0 => when (List.isEmpty r0.2 && allF [.fz] r0.1) (when (isStr (toF (List.getD r0.1 0 em))) (some ([.fz (.str (toStr (toF (List.getD r0.1 0 em)))), .fz (.bool true)], []))) := by kernel_rfl
theorem X_words_Join_1_1_eq (R : Orc) (k : Nat) (w : Bool) (a : List FV) (b c : ByteArray) (d : Bool) : K_words_Join_1 R k w .ret (X_words_Join_1_1 a b c d) = some ([.fz (.str c), .fz (.bool d)], []) := by kernel_rfl
/-! keyhole/words.Times -/
def C_words_Times : ACode := codeOf 13 Try.f13
def A_words_Times_j1 : ACode := C_words_Times.at [1, 1, 0]
def A_words_Times : AFunc := ⟨2, [(.tmp 4, .fz), (.tmp 5, .fz)], C_words_Times, none⟩
def J_words_Times_1_0 (R : Orc) (k : Nat) (w : Bool) (a : ByteArray) (b : Int) := execL R k w [] A_words_Times_j1 Ans ⟨[(0, .fz (.str a)), (1, .fz (.int .i64 b))], [(4095, .dead)]⟩ (kFin R [(.tmp 4, .fz), (.tmp 5, .fz)] [])
theorem E_words_Times (R : Orc) (k : Nat) (w : Bool) (a : ByteArray) (b : Int) : callL R k w A_words_Times [.fz (.str a), .fz (.int .i64 b)] = ifB (ByteArray.toList a == ByteArray.toList (⟨#[]⟩ : ByteArray))
 (some ([.fz (.str (⟨#[]⟩ : ByteArray)), .fz (.bool true)], []))
 (ifB (decide (b < 1))
 (some ([.fz (.str (⟨#[]⟩ : ByteArray)), .fz (.bool true)], []))
 (jump w (J_words_Times_1_0 R k w a b))) := by kernel_rfl
theorem J_words_Times_1_0_eq (R : Orc) (k : Nat) (w : Bool) (a : ByteArray) (b : Int) : J_words_Times_1_0 R k w a b = when (!decide ((ByteArray.size a : Int) = 0)) (ifB (decide (b > (IntKind.wrap .i64 (Int.tdiv 4096 (ByteArray.size a : Int)))))
 (some ([.fz (.str (⟨#[]⟩ : ByteArray)), .fz (.bool false)], []))
 (onR (R N_strings_Repeat [.fz (.str a), .fz (.int .i64 b)]) fun r0 => when (List.isEmpty r0.2 && allF [.fz] r0.1) (when (isStr (toF (List.getD r0.1 0 em))) (some ([.fz (.str (toStr (toF (List.getD r0.1 0 em)))), .fz (.bool true)], []))))) := by kernel_rfl
/-! keyhole/words.signs -/
def C_words_signs : ACode := codeOf 14 Try.f14
def A_words_signs_b1 : ACode := C_words_signs.at [1, 1, 1, 1, 0, 0, 0]
def A_words_signs_s1 : ACode := C_words_signs.at [1, 1, 1, 1, 1]
def A_words_signs : AFunc := ⟨1, [(.tmp 2, .fz), (.tmp 3, .fz)], C_words_signs, none⟩
def K_words_signs_1 (R : Orc) (k : Nat) (w : Bool) : AExit → St → Option Ans := (kBlk 0 (kSeq R k w [] A_words_signs_s1 (kFin R [(.tmp 2, .fz), (.tmp 3, .fz)] [])))
def L_words_signs_1_0 (R : Orc) (k : Nat) (w : Bool) (n : Nat) (a : ByteArray) (b : Int) := loopL R k w [] [0, 4, 5] [5] A_words_signs_b1 n ⟨[(0, .fz (.str a)), (4, .fz (.int .i64 b)), (5, .nils)], [(4095, .dead)]⟩
def L_words_signs_1_1 (R : Orc) (k : Nat) (w : Bool) (n : Nat) (a : ByteArray) (b : Int) (c : List FV) := loopL R k w [] [0, 4, 5] [5] A_words_signs_b1 n ⟨[(0, .fz (.str a)), (4, .fz (.int .i64 b)), (5, .rw 4096)], [(4095, .dead), (4096, .row 1 false c)]⟩
def X_words_signs_1_0 : St := ⟨[(5, .nils)], [(4095, .dead)]⟩
def X_words_signs_1_1 (a : List FV) : St := ⟨[(5, .rw 4096)], [(4095, .dead), (4096, .row 1 false a)]⟩
theorem E_words_signs (R : Orc) (k : Nat) (w : Bool) (a : ByteArray) : callL R k w A_words_signs [.fz (.str a)] = onR (R N_utf_Signs [.fz (.str a)]) fun r0 => when (List.isEmpty r0.2 && allF [.fz] r0.1) (when (isInt .i64 (toF (List.getD r0.1 0 em))) (ifB (decide ((toInt (toF (List.getD r0.1 0 em))) > 4096))
 (some ([.fz (.sl []), .fz (.bool false)], []))
 (onL (L_words_signs_1_0 R k w k a (toInt (toF (List.getD r0.1 0 em)))) (K_words_signs_1 R k w)))) := by kernel_rfl
theorem L_words_signs_1_0_eq (R : Orc) (k : Nat) (w : Bool) (n : Nat) (a : ByteArray) (b : Int) : L_words_signs_1_0 R k w (n + 1) a b = ifB (decide (b > 0))
 (onR (R N_utf_First [.fz (.str a), .fz (.int .i64 1)]) fun r1 => when (List.isEmpty r1.2 && allF [.fz] r1.1) (when (isStr (toF (List.getD r1.1 0 em))) (when (decide (((0 : Nat) + List.length [(FV.str (toStr (toF (List.getD r1.1 0 em))))]) * 16 ≤ roomy) && decide ((0 : Nat) + List.length [(FV.str (toStr (toF (List.getD r1.1 0 em))))] ≤ roomy)) (when (decide (0 ≤ (ByteArray.size a : Int)) && decide ((ByteArray.size a : Int) ≤ (ByteArray.size a : Int))) (when (decide (0 ≤ (ByteArray.size (toStr (toF (List.getD r1.1 0 em))) : Int)) && decide ((ByteArray.size (toStr (toF (List.getD r1.1 0 em))) : Int) ≤ (ByteArray.size a : Int))) (L_words_signs_1_1 R k w n (ByteArray.extract a (Int.toNat (ByteArray.size (toStr (toF (List.getD r1.1 0 em))) : Int)) (Int.toNat (ByteArray.size a : Int))) (IntKind.wrap .i64 (b - 1)) [(.str (toStr (toF (List.getD r1.1 0 em))))]))))))
 (some ((.exit 0), X_words_signs_1_0)) := by kernel_rfl
theorem L_words_signs_1_1_eq (R : Orc) (k : Nat) (w : Bool) (n : Nat) (a : ByteArray) (b : Int) (c : List FV) : L_words_signs_1_1 R k w (n + 1) a b c = ifB (decide (b > 0))
 (onR (R N_utf_First [.fz (.str a), .fz (.int .i64 1)]) fun r2 => when (List.isEmpty r2.2 && allF [.fz] r2.1) (when (isStr (toF (List.getD r2.1 0 em))) (when (decide ((List.length c + List.length [(FV.str (toStr (toF (List.getD r2.1 0 em))))]) * 16 ≤ roomy) && decide (List.length c + List.length [(FV.str (toStr (toF (List.getD r2.1 0 em))))] ≤ roomy)) (when (decide (0 ≤ (ByteArray.size a : Int)) && decide ((ByteArray.size a : Int) ≤ (ByteArray.size a : Int))) (when (decide (0 ≤ (ByteArray.size (toStr (toF (List.getD r2.1 0 em))) : Int)) && decide ((ByteArray.size (toStr (toF (List.getD r2.1 0 em))) : Int) ≤ (ByteArray.size a : Int))) (L_words_signs_1_1 R k w n (ByteArray.extract a (Int.toNat (ByteArray.size (toStr (toF (List.getD r2.1 0 em))) : Int)) (Int.toNat (ByteArray.size a : Int))) (IntKind.wrap .i64 (b - 1)) (c ++ [(FV.str (toStr (toF (List.getD r2.1 0 em))))])))))))
 (some ((.exit 0), X_words_signs_1_1 c)) := by kernel_rfl
theorem X_words_signs_1_0_eq (R : Orc) (k : Nat) (w : Bool) : K_words_signs_1 R k w (.exit 0) (X_words_signs_1_0) = some ([.fz (.sl []), .fz (.bool true)], []) := by kernel_rfl
theorem X_words_signs_1_1_eq (R : Orc) (k : Nat) (w : Bool) (a : List FV) : K_words_signs_1 R k w (.exit 0) (X_words_signs_1_1 a) = some ([.fz (.sl a), .fz (.bool true)], []) := by kernel_rfl
/-! strings.Cut -/
def C_strings_Cut : ACode := codeOf 15 Try.f15
def A_strings_Cut : AFunc := ⟨2, [(.tmp 4, .fz), (.tmp 5, .fz), (.tmp 6, .fz)], C_strings_Cut, none⟩
theorem E_strings_Cut (R : Orc) (k : Nat) (w : Bool) (a b : ByteArray) : callL R k w A_strings_Cut [.fz (.str a), .fz (.str b)] = onR (R N_internal_stringslite_Cut [.fz (.str a), .fz (.str b)]) fun r0 => when (List.isEmpty r0.2 && allF [.fz, .fz, .fz] r0.1) (when (isStr (toF (List.getD r0.1 0 em))) (when (isStr (toF (List.getD r0.1 1 em))) (when (isBool (toF (List.getD r0.1 2 em))) (some ([.fz (.str (toStr (toF (List.getD r0.1 0 em)))), .fz (.str (toStr (toF (List.getD r0.1 1 em)))), .fz (.bool (toBool (toF (List.getD r0.1 2 em))))], []))))) := by kernel_rfl
/-! keyhole/utf.Signs -/
def C_utf_Signs : ACode := codeOf 19 Try.f19
def A_utf_Signs_b1 : ACode := C_utf_Signs.at [1, 1, 1, 0, 1, 0, 0]
def A_utf_Signs_s1 : ACode := C_utf_Signs.at [1, 1, 1, 1]
def A_utf_Signs : AFunc := ⟨1, [(.tmp 2, .fz)], C_utf_Signs, none⟩
def K_utf_Signs_1 (R : Orc) (k : Nat) (w : Bool) : AExit → St → Option Ans := (kBlk 0 (kSeq R k w [] A_utf_Signs_s1 (kFin R [(.tmp 2, .fz)] [])))
def L_utf_Signs_1_0 (R : Orc) (k : Nat) (w : Bool) (n : Nat) (a : Int) (b : ByteArray) (c : Nat) := loopL R k w [] [3, 8] [3] A_utf_Signs_b1 n ⟨[(3, .fz (.int .i64 a)), (8, .ptr 4096 0 0)], [(4095, .dead), (4096, .itr b c)]⟩
def X_utf_Signs_1_0 (a : Int) : St := ⟨[(3, .fz (.int .i64 a))], [(4095, .dead)]⟩
theorem E_utf_Signs (R : Orc) (k : Nat) (w : Bool) (a : ByteArray) : callL R k w A_utf_Signs [.fz (.str a)] = onR (R N_utf_Valid [.fz (.str a)]) fun r0 => when (List.isEmpty r0.2 && allF [.fz] r0.1) (when (isBool (toF (List.getD r0.1 0 em))) (ifB (!(toBool (toF (List.getD r0.1 0 em))))
 (some ([.fz (.int .i64 0)], []))
 (onL (L_utf_Signs_1_0 R k w k 0 a 0) (K_utf_Signs_1 R k w)))) := by kernel_rfl
theorem L_utf_Signs_1_0_eq (R : Orc) (k : Nat) (w : Bool) (n : Nat) (a : Int) (b : ByteArray) (c : Nat) : L_utf_Signs_1_0 R k w (n + 1) a b c = ifB (Nat.blt c (ByteArray.size b))
 (L_utf_Signs_1_0 R k w n (IntKind.wrap .i64 (a + 1)) b (c + (Utf8.decode b c).2))
 (some ((.exit 0), X_utf_Signs_1_0 a)) := by kernel_rfl
theorem X_utf_Signs_1_0_eq (R : Orc) (k : Nat) (w : Bool) (a : Int) : K_utf_Signs_1 R k w (.exit 0) (X_utf_Signs_1_0 a) = some ([.fz (.int .i64 a)], []) := by kernel_rfl
/-! keyhole/utf.First -/
def C_utf_First : ACode := codeOf 20 Try.f20
def A_utf_First_b1 : ACode := C_utf_First.at [1, 1, 0, 1, 0, 1, 0, 0]
def A_utf_First_s1 : ACode := C_utf_First.at [1, 1, 0, 1, 1]
def A_utf_First_j2 : ACode := C_utf_First.at [1, 1, 0]
def A_utf_First : AFunc := ⟨2, [(.tmp 4, .fz)], C_utf_First, none⟩
def J_utf_First_2_0 (R : Orc) (k : Nat) (w : Bool) (a : ByteArray) (b : Int) := execL R k w [] A_utf_First_j2 Ans ⟨[(0, .fz (.str a)), (1, .fz (.int .i64 b))], [(4095, .dead)]⟩ (kFin R [(.tmp 4, .fz)] [])
def K_utf_First_1 (R : Orc) (k : Nat) (w : Bool) : AExit → St → Option Ans := (kBlk 0 (kSeq R k w [] A_utf_First_s1 (kFin R [(.tmp 4, .fz)] [])))
def L_utf_First_1_0 (R : Orc) (k : Nat) (w : Bool) (n : Nat) (a : ByteArray) (b c : Int) (d : ByteArray) (e : Nat) := loopL R k w [] [0, 1, 5, 15] [0, 4] A_utf_First_b1 n ⟨[(0, .fz (.str a)), (1, .fz (.int .i64 b)), (5, .fz (.int .i64 c)), (15, .ptr 4096 0 0)], [(4095, .dead), (4096, .itr d e)]⟩
def X_utf_First_1_0 (a b : ByteArray) : St := ⟨[(0, .fz (.str a)), (4, .fz (.str b))], [(4095, .dead)]⟩
def X_utf_First_1_1 (a : ByteArray) : St := ⟨[(0, .fz (.str a))], [(4095, .dead)]⟩
theorem E_utf_First (R : Orc) (k : Nat) (w : Bool) (a : ByteArray) (b : Int) : callL R k w A_utf_First [.fz (.str a), .fz (.int .i64 b)] = ifB (decide (b < 1))
 (some ([.fz (.str (⟨#[]⟩ : ByteArray))], []))
 (onR (R N_utf_Valid [.fz (.str a)]) fun r0 => when (List.isEmpty r0.2 && allF [.fz] r0.1) (when (isBool (toF (List.getD r0.1 0 em))) (ifB (!(toBool (toF (List.getD r0.1 0 em))))
 (some ([.fz (.str (⟨#[]⟩ : ByteArray))], []))
 (jump w (J_utf_First_2_0 R k w a b))))) := by kernel_rfl
theorem J_utf_First_2_0_eq (R : Orc) (k : Nat) (w : Bool) (a : ByteArray) (b : Int) : J_utf_First_2_0 R k w a b = onL (L_utf_First_1_0 R k w k a b 0 a 0) (K_utf_First_1 R k w) := by kernel_rfl
theorem L_utf_First_1_0_eq (R : Orc) (k : Nat) (w : Bool) (n : Nat) (a : ByteArray) (b c : Int) (d : ByteArray) (e : Nat) : L_utf_First_1_0 R k w (n + 1) a b c d e = ifB (Nat.blt e (ByteArray.size d))
 (ifB (c == b)
 (when (decide (0 ≤ (e : Int)) && decide ((e : Int) ≤ (ByteArray.size a : Int))) (when (decide (0 ≤ 0) && decide (0 ≤ (e : Int))) (some (.ret, X_utf_First_1_0 a (ByteArray.extract a 0 (Int.toNat (e : Int)))))))
 (L_utf_First_1_0 R k w n a b (IntKind.wrap .i64 (c + 1)) d (e + (Utf8.decode d e).2)))
 (some ((.exit 0), X_utf_First_1_1 a)) := by kernel_rfl
theorem X_utf_First_1_0_eq (R : Orc) (k : Nat) (w : Bool) (a b : ByteArray) : K_utf_First_1 R k w .ret (X_utf_First_1_0 a b) = some ([.fz (.str b)], []) := by kernel_rfl
theorem X_utf_First_1_1_eq (R : Orc) (k : Nat) (w : Bool) (a : ByteArray) : K_utf_First_1 R k w (.exit 0) (X_utf_First_1_1 a) = some ([.fz (.str a)], []) := by kernel_rfl
/-! internal/stringslite.Cut -/
def C_internal_stringslite_Cut : ACode := codeOf 21 Try.f21
def A_internal_stringslite_Cut : AFunc := ⟨2, [(.tmp 4, .fz), (.tmp 5, .fz), (.tmp 6, .fz)], C_internal_stringslite_Cut, none⟩
theorem E_internal_stringslite_Cut (R : Orc) (k : Nat) (w : Bool) (a b : ByteArray) : callL R k w A_internal_stringslite_Cut [.fz (.str a), .fz (.str b)] = onR (R N_internal_stringslite_Index [.fz (.str a), .fz (.str b)]) fun r0 => when (List.isEmpty r0.2 && allF [.fz] r0.1) (when (isInt .i64 (toF (List.getD r0.1 0 em))) (ifB (decide ((toInt (toF (List.getD r0.1 0 em))) ≥ 0))
 (when (decide (0 ≤ (toInt (toF (List.getD r0.1 0 em)))) && decide ((toInt (toF (List.getD r0.1 0 em))) ≤ (ByteArray.size a : Int))) (when (decide (0 ≤ 0) && decide (0 ≤ (toInt (toF (List.getD r0.1 0 em))))) (when (decide (0 ≤ (ByteArray.size a : Int)) && decide ((ByteArray.size a : Int) ≤ (ByteArray.size a : Int))) (when (decide (0 ≤ (IntKind.wrap .i64 ((toInt (toF (List.getD r0.1 0 em))) + (ByteArray.size b : Int)))) && decide ((IntKind.wrap .i64 ((toInt (toF (List.getD r0.1 0 em))) + (ByteArray.size b : Int))) ≤ (ByteArray.size a : Int))) (some ([.fz (.str (ByteArray.extract a 0 (Int.toNat (toInt (toF (List.getD r0.1 0 em)))))), .fz (.str (ByteArray.extract a (Int.toNat (IntKind.wrap .i64 ((toInt (toF (List.getD r0.1 0 em))) + (ByteArray.size b : Int)))) (Int.toNat (ByteArray.size a : Int)))), .fz (.bool true)], []))))))
 (some ([.fz (.str a), .fz (.str (⟨#[]⟩ : ByteArray)), .fz (.bool false)], [])))) := by kernel_rfl
/-! keyhole/utf.Valid -/
def C_utf_Valid : ACode := codeOf 29 Try.f29
def A_utf_Valid_b1 : ACode := C_utf_Valid.at [1, 0, 0, 0]
def A_utf_Valid_s1 : ACode := C_utf_Valid.at [1, 1]
def A_utf_Valid : AFunc := ⟨1, [(.tmp 2, .fz)], C_utf_Valid, none⟩
def K_utf_Valid_1 (R : Orc) (k : Nat) (w : Bool) : AExit → St → Option Ans := (kBlk 0 (kSeq R k w [] A_utf_Valid_s1 (kFin R [(.tmp 2, .fz)] [])))
def L_utf_Valid_1_0 (R : Orc) (k : Nat) (w : Bool) (n : Nat) (a : ByteArray) := loopL R k w [] [0] [2] A_utf_Valid_b1 n ⟨[(0, .fz (.str a))], [(4095, .dead)]⟩
def X_utf_Valid_1_0 (a : Bool) : St := ⟨[(2, .fz (.bool a))], [(4095, .dead)]⟩
def X_utf_Valid_1_1 : St := ⟨[], [(4095, .dead)]⟩
theorem E_utf_Valid (R : Orc) (k : Nat) (w : Bool) (a : ByteArray) : callL R k w A_utf_Valid [.fz (.str a)] = onL (L_utf_Valid_1_0 R k w k a) (K_utf_Valid_1 R k w) := by kernel_rfl
theorem L_utf_Valid_1_0_eq (R : Orc) (k : Nat) (w : Bool) (n : Nat) (a : ByteArray) : L_utf_Valid_1_0 R k w (n + 1) a = ifB (!(ByteArray.toList a == ByteArray.toList (⟨#[]⟩ : ByteArray)))
 (onR (R N_utf_size [.fz (.str a)]) fun r0 => when (List.isEmpty r0.2 && allF [.fz] r0.1) (when (isInt .i64 (toF (List.getD r0.1 0 em))) (ifB ((toInt (toF (List.getD r0.1 0 em))) == 0)
 (some (.ret, X_utf_Valid_1_0 false))
 (when (decide (0 ≤ (ByteArray.size a : Int)) && decide ((ByteArray.size a : Int) ≤ (ByteArray.size a : Int))) (when (decide (0 ≤ (toInt (toF (List.getD r0.1 0 em)))) && decide ((toInt (toF (List.getD r0.1 0 em))) ≤ (ByteArray.size a : Int))) (L_utf_Valid_1_0 R k w n (ByteArray.extract a (Int.toNat (toInt (toF (List.getD r0.1 0 em)))) (Int.toNat (ByteArray.size a : Int)))))))))
 (some ((.exit 0), X_utf_Valid_1_1)) := by kernel_rfl
theorem X_utf_Valid_1_0_eq (R : Orc) (k : Nat) (w a : Bool) : K_utf_Valid_1 R k w .ret (X_utf_Valid_1_0 a) = some ([.fz (.bool a)], []) := by kernel_rfl
theorem X_utf_Valid_1_1_eq (R : Orc) (k : Nat) (w : Bool) : K_utf_Valid_1 R k w (.exit 0) (X_utf_Valid_1_1) = some ([.fz (.bool true)], []) := by kernel_rfl
/-! keyhole/utf.size -/
def C_utf_size : ACode := codeOf 39 Try.f39
def A_utf_size_j1 : ACode := C_utf_size.at [1, 1, 0, 0, 1, 1, 1, 0, 1, 0, 1, 0, 1, 1, 0]
def A_utf_size_j2 : ACode := C_utf_size.at [1, 1, 0, 0, 1, 1, 1, 0, 1, 0, 1, 0]
def A_utf_size_j3 : ACode := C_utf_size.at [1, 1, 0, 0, 1, 1, 1, 0, 1, 1, 0, 1, 0, 1, 0, 1, 1, 0]
def A_utf_size_j4 : ACode := C_utf_size.at [1, 1, 0, 0, 1, 1, 1, 0, 1, 1, 0, 1, 0, 1, 0]
def A_utf_size_s5 : ACode := C_utf_size.at [1, 1, 0, 0, 1, 1, 1, 0, 1, 1, 0, 1, 1]
def A_utf_size_j6 : ACode := C_utf_size.at [1, 1, 0, 0, 1, 1, 1, 0, 1, 1, 0]
def A_utf_size_s7 : ACode := C_utf_size.at [1, 1, 0, 0, 1, 1, 1, 0, 1, 1]
def A_utf_size_j8 : ACode := C_utf_size.at [1, 1, 0, 0, 1, 1, 1, 0]
def A_utf_size_s9 : ACode := C_utf_size.at [1, 1, 1]
def A_utf_size : AFunc := ⟨1, [(.tmp 2, .fz)], C_utf_size, none⟩
def J_utf_size_8_0 (R : Orc) (k : Nat) (w : Bool) (a : ByteArray) (b : Int) (c : Bool) := execL R k w [] A_utf_size_j8 Ans ⟨[(0, .fz (.str a)), (3, .fz (.int .u8 b)), (9, .fz (.bool c))], [(4095, .dead)]⟩ (kBlk 0 (kSeq R k w [] A_utf_size_s9 (kFin R [(.tmp 2, .fz)] [])))
def J_utf_size_2_0 (R : Orc) (k : Nat) (w : Bool) (a : ByteArray) (b : Int) (c : Bool) := execL R k w [] A_utf_size_j2 Ans ⟨[(0, .fz (.str a)), (3, .fz (.int .u8 b)), (20, .fz (.bool c))], [(4095, .dead)]⟩ (kSeq R k w [] A_utf_size_s7 (kBlk 0 (kSeq R k w [] A_utf_size_s9 (kFin R [(.tmp 2, .fz)] []))))
def J_utf_size_6_0 (R : Orc) (k : Nat) (w : Bool) (a : ByteArray) (b : Int) (c : Bool) := execL R k w [] A_utf_size_j6 Ans ⟨[(0, .fz (.str a)), (3, .fz (.int .u8 b)), (20, .fz (.bool c))], [(4095, .dead)]⟩ (kBlk 0 (kSeq R k w [] A_utf_size_s9 (kFin R [(.tmp 2, .fz)] [])))
def J_utf_size_1_0 (R : Orc) (k : Nat) (w : Bool) (a : ByteArray) (b : Int) (c : Bool) := execL R k w [] A_utf_size_j1 Ans ⟨[(0, .fz (.str a)), (3, .fz (.int .u8 b)), (20, .fz (.bool c))], [(4095, .dead)]⟩ (kSeq R k w [] A_utf_size_s7 (kBlk 0 (kSeq R k w [] A_utf_size_s9 (kFin R [(.tmp 2, .fz)] []))))
def J_utf_size_4_0 (R : Orc) (k : Nat) (w : Bool) (a : ByteArray) (b : Int) (c : Bool) := execL R k w [] A_utf_size_j4 Ans ⟨[(0, .fz (.str a)), (3, .fz (.int .u8 b)), (47, .fz (.bool c))], [(4095, .dead)]⟩ (kSeq R k w [] A_utf_size_s5 (kBlk 0 (kSeq R k w [] A_utf_size_s9 (kFin R [(.tmp 2, .fz)] []))))
def J_utf_size_3_0 (R : Orc) (k : Nat) (w : Bool) (a : ByteArray) (b : Int) (c : Bool) := execL R k w [] A_utf_size_j3 Ans ⟨[(0, .fz (.str a)), (3, .fz (.int .u8 b)), (47, .fz (.bool c))], [(4095, .dead)]⟩ (kSeq R k w [] A_utf_size_s5 (kBlk 0 (kSeq R k w [] A_utf_size_s9 (kFin R [(.tmp 2, .fz)] []))))
theorem E_utf_size (R : Orc) (k : Nat) (w : Bool) (a : ByteArray) : callL R k w A_utf_size [.fz (.str a)] = when (decide (0 < (ByteArray.size a : Int))) (ifB (decide ((((Array.getD (ByteArray.data a) 0 0).toNat : Nat) : Int) < 128))
 (some ([.fz (.int .i64 1)], []))
 (ifB (decide ((((Array.getD (ByteArray.data a) 0 0).toNat : Nat) : Int) ≥ 194))
 (ifB (decide ((((Array.getD (ByteArray.data a) 0 0).toNat : Nat) : Int) ≤ 223))
 (onR (R N_utf_tail [.fz (.str a), .fz (.int .i64 1), .fz (.int .u8 128), .fz (.int .u8 191)]) fun r0 => when (List.isEmpty r0.2 && allF [.fz] r0.1) (when (isBool (toF (List.getD r0.1 0 em))) (jump w (J_utf_size_8_0 R k w a (((Array.getD (ByteArray.data a) 0 0).toNat : Nat) : Int) (toBool (toF (List.getD r0.1 0 em)))))))
 (jump w (J_utf_size_8_0 R k w a (((Array.getD (ByteArray.data a) 0 0).toNat : Nat) : Int) false)))
 (jump w (J_utf_size_8_0 R k w a (((Array.getD (ByteArray.data a) 0 0).toNat : Nat) : Int) false)))) := by kernel_rfl
theorem J_utf_size_8_0_eq (R : Orc) (k : Nat) (w : Bool) (a : ByteArray) (b : Int) (c : Bool) : J_utf_size_8_0 R k w a b c = ifB c
 (some ([.fz (.int .i64 2)], []))
 (ifB (b == 224)
 (onR (R N_utf_tail [.fz (.str a), .fz (.int .i64 2), .fz (.int .u8 160), .fz (.int .u8 191)]) fun r1 => when (List.isEmpty r1.2 && allF [.fz] r1.1) (when (isBool (toF (List.getD r1.1 0 em))) (jump w (J_utf_size_2_0 R k w a b (toBool (toF (List.getD r1.1 0 em)))))))
 (jump w (J_utf_size_2_0 R k w a b false))) := by kernel_rfl
theorem J_utf_size_2_0_eq (R : Orc) (k : Nat) (w : Bool) (a : ByteArray) (b : Int) (c : Bool) : J_utf_size_2_0 R k w a b c = ifB c
 (jump w (J_utf_size_6_0 R k w a b true))
 (ifB (decide (b ≥ 225))
 (ifB (decide (b ≤ 239))
 (ifB (b != 237)
 (onR (R N_utf_tail [.fz (.str a), .fz (.int .i64 2), .fz (.int .u8 128), .fz (.int .u8 191)]) fun r2 => when (List.isEmpty r2.2 && allF [.fz] r2.1) (when (isBool (toF (List.getD r2.1 0 em))) (jump w (J_utf_size_1_0 R k w a b (toBool (toF (List.getD r2.1 0 em)))))))
 (jump w (J_utf_size_1_0 R k w a b false)))
 (jump w (J_utf_size_1_0 R k w a b false)))
 (jump w (J_utf_size_1_0 R k w a b false))) := by kernel_rfl
theorem J_utf_size_6_0_eq (R : Orc) (k : Nat) (w : Bool) (a : ByteArray) (b : Int) (c : Bool) : J_utf_size_6_0 R k w a b c = ifB c
 (some ([.fz (.int .i64 3)], []))
 (ifB (b == 240)
 (onR (R N_utf_tail [.fz (.str a), .fz (.int .i64 3), .fz (.int .u8 144), .fz (.int .u8 191)]) fun r3 => when (List.isEmpty r3.2 && allF [.fz] r3.1) (when (isBool (toF (List.getD r3.1 0 em))) (jump w (J_utf_size_4_0 R k w a b (toBool (toF (List.getD r3.1 0 em)))))))
 (jump w (J_utf_size_4_0 R k w a b false))) := by kernel_rfl
theorem J_utf_size_1_0_eq (R : Orc) (k : Nat) (w : Bool) (a : ByteArray) (b : Int) (c : Bool) : J_utf_size_1_0 R k w a b c = ifB c
 (jump w (J_utf_size_6_0 R k w a b true))
 (ifB (b == 237)
 (onR (R N_utf_tail [.fz (.str a), .fz (.int .i64 2), .fz (.int .u8 128), .fz (.int .u8 159)]) fun r4 => when (List.isEmpty r4.2 && allF [.fz] r4.1) (when (isBool (toF (List.getD r4.1 0 em))) (jump w (J_utf_size_6_0 R k w a b (toBool (toF (List.getD r4.1 0 em)))))))
 (jump w (J_utf_size_6_0 R k w a b false))) := by kernel_rfl
theorem J_utf_size_4_0_eq (R : Orc) (k : Nat) (w : Bool) (a : ByteArray) (b : Int) (c : Bool) : J_utf_size_4_0 R k w a b c = ifB c
 (some ([.fz (.int .i64 4)], []))
 (ifB (decide (b ≥ 241))
 (ifB (decide (b ≤ 243))
 (onR (R N_utf_tail [.fz (.str a), .fz (.int .i64 3), .fz (.int .u8 128), .fz (.int .u8 191)]) fun r5 => when (List.isEmpty r5.2 && allF [.fz] r5.1) (when (isBool (toF (List.getD r5.1 0 em))) (jump w (J_utf_size_3_0 R k w a b (toBool (toF (List.getD r5.1 0 em)))))))
 (jump w (J_utf_size_3_0 R k w a b false)))
 (jump w (J_utf_size_3_0 R k w a b false))) := by kernel_rfl
theorem J_utf_size_3_0_eq (R : Orc) (k : Nat) (w : Bool) (a : ByteArray) (b : Int) (c : Bool) : J_utf_size_3_0 R k w a b c = ifB c
 (some ([.fz (.int .i64 4)], []))
 (ifB (b == 244)
 (onR (R N_utf_tail [.fz (.str a), .fz (.int .i64 3), .fz (.int .u8 128), .fz (.int .u8 143)]) fun r6 => when (List.isEmpty r6.2 && allF [.fz] r6.1) (when (isBool (toF (List.getD r6.1 0 em))) (ifB (toBool (toF (List.getD r6.1 0 em)))
 (some ([.fz (.int .i64 4)], []))
 (some ([.fz (.int .i64 0)], [])))))
 (some ([.fz (.int .i64 0)], []))) := by kernel_rfl
/-! keyhole/utf.tail -/
def C_utf_tail : ACode := codeOf 44 Try.f44
def A_utf_tail_b1 : ACode := C_utf_tail.at [1, 1, 0, 0, 1, 0, 0]
def A_utf_tail_s1 : ACode := C_utf_tail.at [1, 1, 0, 1]
def A_utf_tail_j2 : ACode := C_utf_tail.at [1, 1, 0]
def A_utf_tail : AFunc := ⟨4, [(.tmp 8, .fz)], C_utf_tail, none⟩
def J_utf_tail_2_0 (R : Orc) (k : Nat) (w : Bool) (a : ByteArray) (b : Int) := execL R k w [] A_utf_tail_j2 Ans ⟨[(0, .fz (.str a)), (1, .fz (.int .i64 b))], [(4095, .dead)]⟩ (kFin R [(.tmp 8, .fz)] [])
def K_utf_tail_1 (R : Orc) (k : Nat) (w : Bool) : AExit → St → Option Ans := (kBlk 0 (kSeq R k w [] A_utf_tail_s1 (kFin R [(.tmp 8, .fz)] [])))
def L_utf_tail_1_0 (R : Orc) (k : Nat) (w : Bool) (n : Nat) (a : ByteArray) (b c : Int) := loopL R k w [] [0, 1, 9] [8] A_utf_tail_b1 n ⟨[(0, .fz (.str a)), (1, .fz (.int .i64 b)), (9, .fz (.int .i64 c))], [(4095, .dead)]⟩
def X_utf_tail_1_0 (a : Bool) : St := ⟨[(8, .fz (.bool a))], [(4095, .dead)]⟩
def X_utf_tail_1_1 : St := ⟨[], [(4095, .dead)]⟩
theorem E_utf_tail (R : Orc) (k : Nat) (w : Bool) (a : ByteArray) (b c d : Int) : callL R k w A_utf_tail [.fz (.str a), .fz (.int .i64 b), .fz (.int .u8 c), .fz (.int .u8 d)] = ifB (decide ((ByteArray.size a : Int) ≤ b))
 (some ([.fz (.bool false)], []))
 (when (decide (1 < (ByteArray.size a : Int))) (ifB (decide ((((Array.getD (ByteArray.data a) 1 0).toNat : Nat) : Int) < c))
 (some ([.fz (.bool false)], []))
 (when (decide (1 < (ByteArray.size a : Int))) (ifB (decide ((((Array.getD (ByteArray.data a) 1 0).toNat : Nat) : Int) > d))
 (some ([.fz (.bool false)], []))
 (jump w (J_utf_tail_2_0 R k w a b)))))) := by kernel_rfl
theorem J_utf_tail_2_0_eq (R : Orc) (k : Nat) (w : Bool) (a : ByteArray) (b : Int) : J_utf_tail_2_0 R k w a b = onL (L_utf_tail_1_0 R k w k a b 2) (K_utf_tail_1 R k w) := by kernel_rfl
theorem L_utf_tail_1_0_eq (R : Orc) (k : Nat) (w : Bool) (n : Nat) (a : ByteArray) (b c : Int) : L_utf_tail_1_0 R k w (n + 1) a b c = ifB (decide (c ≤ b))
 (when ((decide (0 ≤ c)) && (decide (c < (ByteArray.size a : Int)))) (ifB (decide ((((Array.getD (ByteArray.data a) (Int.toNat c) 0).toNat : Nat) : Int) < 128))
 (some (.ret, X_utf_tail_1_0 false))
 (when ((decide (0 ≤ c)) && (decide (c < (ByteArray.size a : Int)))) (ifB (decide ((((Array.getD (ByteArray.data a) (Int.toNat c) 0).toNat : Nat) : Int) > 191))
 (some (.ret, X_utf_tail_1_0 false))
 (L_utf_tail_1_0 R k w n a b (IntKind.wrap .i64 (c + 1)))))))
 (some ((.exit 0), X_utf_tail_1_1)) := by kernel_rfl
theorem X_utf_tail_1_0_eq (R : Orc) (k : Nat) (w a : Bool) : K_utf_tail_1 R k w .ret (X_utf_tail_1_0 a) = some ([.fz (.bool a)], []) := by kernel_rfl
theorem X_utf_tail_1_1_eq (R : Orc) (k : Nat) (w : Bool) : K_utf_tail_1 R k w (.exit 0) (X_utf_tail_1_1) = some ([.fz (.bool true)], []) := by kernel_rfl
end
end Go.Ab
