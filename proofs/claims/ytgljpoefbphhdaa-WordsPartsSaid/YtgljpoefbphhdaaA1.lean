-- Written by a program of the session, out of the translation. Lean checks it.
import Derived.Test.YtgljpoefbphhdaaA0
namespace Go.Ab
open Go.Proofs FV TV
set_option linter.unusedVariables false
set_option maxRecDepth 100000
noncomputable section
/-! keyhole/keyholelaw08.WordsParts -/
def C_law08_WordsParts : ACode := codeOf 4 Try.f4
def A_law08_WordsParts_b1 : ACode := C_law08_WordsParts.at [1, 1, 0, 0, 1, 0, 0]
def A_law08_WordsParts_b2 : ACode := C_law08_WordsParts.at [1, 1, 0, 1, 1, 1, 1, 1, 0, 0, 1, 0, 0]
def A_law08_WordsParts_s1 : ACode := C_law08_WordsParts.at [1, 1, 0, 1, 1, 1, 1, 1, 0, 1]
def A_law08_WordsParts_j2 : ACode := C_law08_WordsParts.at [1, 1, 0, 1, 1, 1, 1, 1, 0]
def A_law08_WordsParts_s3 : ACode := C_law08_WordsParts.at [1, 1, 0, 1]
def A_law08_WordsParts_j4 : ACode := C_law08_WordsParts.at [1, 1, 0]
def A_law08_WordsParts : AFunc := ⟨2, [(.tmp 4, .fz)], C_law08_WordsParts, none⟩
def J_law08_WordsParts_4_0 (R : Orc) (k : Nat) (w : Bool) (a : List FV) (b : Int) := execL R k w [] A_law08_WordsParts_j4 Ans ⟨[(0, .fz (.sl a)), (1, .fz (.int .u8 b))], [(4095, .dead)]⟩ (kFin R [(.tmp 4, .fz)] [])
def K_law08_WordsParts_1 (R : Orc) (k : Nat) (w : Bool) : AExit → St → Option Ans := (kBlk 0 (kSeq R k w [] A_law08_WordsParts_s3 (kFin R [(.tmp 4, .fz)] [])))
def L_law08_WordsParts_1_0 (R : Orc) (k : Nat) (w : Bool) (n : Nat) (a : List FV) (b c : Int) := loopL R k w [] [0, 1, 5] [0, 1, 4] A_law08_WordsParts_b1 n ⟨[(0, .fz (.sl a)), (1, .fz (.int .u8 b)), (5, .fz (.int .i64 c))], [(4095, .dead)]⟩
def X_law08_WordsParts_1_0 (a : List FV) (b : Int) (c : Bool) : St := ⟨[(0, .fz (.sl a)), (1, .fz (.int .u8 b)), (4, .fz (.bool c))], [(4095, .dead)]⟩
def X_law08_WordsParts_1_1 (a : List FV) (b : Int) : St := ⟨[(0, .fz (.sl a)), (1, .fz (.int .u8 b))], [(4095, .dead)]⟩
def J_law08_WordsParts_2_0 (R : Orc) (k : Nat) (w : Bool) (a : List FV) (b : FV) := execL R k w [] A_law08_WordsParts_j2 Ans ⟨[(0, .fz (.sl a)), (8, .fz b)], [(4095, .dead)]⟩ (kFin R [(.tmp 4, .fz)] [])
def K_law08_WordsParts_2 (R : Orc) (k : Nat) (w : Bool) : AExit → St → Option Ans := (kBlk 2 (kSeq R k w [] A_law08_WordsParts_s1 (kFin R [(.tmp 4, .fz)] [])))
def L_law08_WordsParts_2_0 (R : Orc) (k : Nat) (w : Bool) (n : Nat) (a : List FV) (b : FV) (c : Int) := loopL R k w [] [0, 8, 10] [4] A_law08_WordsParts_b2 n ⟨[(0, .fz (.sl a)), (8, .fz b), (10, .fz (.int .i64 c))], [(4095, .dead)]⟩
def X_law08_WordsParts_2_0 (a : Bool) : St := ⟨[(4, .fz (.bool a))], [(4095, .dead)]⟩
def X_law08_WordsParts_2_1 : St := ⟨[], [(4095, .dead)]⟩
theorem E_law08_WordsParts (R : Orc) (k : Nat) (w : Bool) (a : List FV) (b : Int) : callL R k w A_law08_WordsParts [.fz (.sl a), .fz (.int .u8 b)] = ifB (decide ((List.length a : Int) > 50))
 (onR (R N_law08_lives []) fun r0 => when (List.isEmpty r0.2 && allF [.fz] r0.1) (when (isBool (toF (List.getD r0.1 0 em))) (some ([.fz (.bool (toBool (toF (List.getD r0.1 0 em))))], []))))
 (ifB ((List.length a : Int) == 0)
 (onR (R N_law08_lives []) fun r1 => when (List.isEmpty r1.2 && allF [.fz] r1.1) (when (isBool (toF (List.getD r1.1 0 em))) (some ([.fz (.bool (toBool (toF (List.getD r1.1 0 em))))], []))))
 (jump w (J_law08_WordsParts_4_0 R k w a b))) := by kernel_rfl
theorem J_law08_WordsParts_4_0_eq (R : Orc) (k : Nat) (w : Bool) (a : List FV) (b : Int) : J_law08_WordsParts_4_0 R k w a b = onL (L_law08_WordsParts_1_0 R k w k a b 0) (K_law08_WordsParts_1 R k w) := by kernel_rfl
theorem L_law08_WordsParts_1_0_eq (R : Orc) (k : Nat) (w : Bool) (n : Nat) (a : List FV) (b c : Int) : L_law08_WordsParts_1_0 R k w (n + 1) a b c = ifB (decide (c < (List.length a : Int)))
 (when ((decide (0 ≤ c)) && (decide (c < (List.length a : Int)))) (when (fits 1 false (List.getD a (Int.toNat c) nilp)) (when (isStr (List.getD a (Int.toNat c) nilp)) (ifB (decide ((ByteArray.size (toStr (List.getD a (Int.toNat c) nilp)) : Int) > 200))
 (onR (R N_law08_lives []) fun r2 => when (List.isEmpty r2.2 && allF [.fz] r2.1) (when (isBool (toF (List.getD r2.1 0 em))) (some (.ret, X_law08_WordsParts_1_0 a b (toBool (toF (List.getD r2.1 0 em)))))))
 (when ((decide (0 ≤ c)) && (decide (c < (List.length a : Int)))) (when (fits 1 false (List.getD a (Int.toNat c) nilp)) (when (isStr (List.getD a (Int.toNat c) nilp)) (when (List.all [.int .u8 b] (isInt .u8)) (onR (R N_words_Has [.fz (.str (toStr (List.getD a (Int.toNat c) nilp))), .fz (.str (⟨(List.map (fun e => UInt8.ofNat (toInt e).toNat) [.int .u8 b]).toArray⟩ : ByteArray))]) fun r3 => when (List.isEmpty r3.2 && allF [.fz] r3.1) (when (isBool (toF (List.getD r3.1 0 em))) (ifB (toBool (toF (List.getD r3.1 0 em)))
 (onR (R N_law08_lives []) fun r4 => when (List.isEmpty r4.2 && allF [.fz] r4.1) (when (isBool (toF (List.getD r4.1 0 em))) (some (.ret, X_law08_WordsParts_1_0 a b (toBool (toF (List.getD r4.1 0 em)))))))
 (L_law08_WordsParts_1_0 R k w n a b (IntKind.wrap .i64 (c + 1))))))))))))))
 (some ((.exit 0), X_law08_WordsParts_1_1 a b)) := by kernel_rfl
theorem X_law08_WordsParts_1_0_eq (R : Orc) (k : Nat) (w : Bool) (a : List FV) (b : Int) (c : Bool) : K_law08_WordsParts_1 R k w .ret (X_law08_WordsParts_1_0 a b c) = some ([.fz (.bool c)], []) := by kernel_rfl
theorem X_law08_WordsParts_1_1_eq (R : Orc) (k : Nat) (w : Bool) (a : List FV) (b : Int) : K_law08_WordsParts_1 R k w (.exit 0) (X_law08_WordsParts_1_1 a b) = when (List.all [.int .u8 b] (isInt .u8)) (onR (R N_words_Join [.fz (.sl a), .fz (.str (⟨(List.map (fun e => UInt8.ofNat (toInt e).toNat) [.int .u8 b]).toArray⟩ : ByteArray))]) fun r5 => when (List.isEmpty r5.2 && allF [.fz, .fz] r5.1) (when (isStr (toF (List.getD r5.1 0 em))) (when (isBool (toF (List.getD r5.1 1 em))) (ifB (!(toBool (toF (List.getD r5.1 1 em))))
 (ifB (ByteArray.toList (toStr (toF (List.getD r5.1 0 em))) == ByteArray.toList (⟨#[]⟩ : ByteArray))
 (onR (R N_law08_lives []) fun r6 => when (List.isEmpty r6.2 && allF [.fz] r6.1) (when (isBool (toF (List.getD r6.1 0 em))) (some ([.fz (.bool (toBool (toF (List.getD r6.1 0 em))))], []))))
 (some ([.fz (.bool false)], [])))
 (when (List.all [.int .u8 b] (isInt .u8)) (onR (R N_words_Split [.fz (.str (toStr (toF (List.getD r5.1 0 em)))), .fz (.str (⟨(List.map (fun e => UInt8.ofNat (toInt e).toNat) [.int .u8 b]).toArray⟩ : ByteArray))]) fun r7 => when (List.isEmpty r7.2 && allF [.fz, .fz] r7.1) (when (isBool (toF (List.getD r7.1 1 em))) (ifB (!(toBool (toF (List.getD r7.1 1 em))))
 (some ([.fz (.bool false)], []))
 (when (isSl (toF (List.getD r7.1 0 em))) (ifB ((List.length (toSl (toF (List.getD r7.1 0 em))) : Int) != (List.length a : Int))
 (some ([.fz (.bool false)], []))
 (jump w (J_law08_WordsParts_2_0 R k w a (toF (List.getD r7.1 0 em)))))))))))))) := by kernel_rfl
theorem J_law08_WordsParts_2_0_eq (R : Orc) (k : Nat) (w : Bool) (a : List FV) (b : FV) : J_law08_WordsParts_2_0 R k w a b = onL (L_law08_WordsParts_2_0 R k w k a b 0) (K_law08_WordsParts_2 R k w) := by kernel_rfl
theorem L_law08_WordsParts_2_0_eq (R : Orc) (k : Nat) (w : Bool) (n : Nat) (a : List FV) (b : FV) (c : Int) : L_law08_WordsParts_2_0 R k w (n + 1) a b c = ifB (decide (c < (List.length a : Int)))
 (when (isSl b) (when ((decide (0 ≤ c)) && (decide (c < (List.length (toSl b) : Int)))) (when (fits 1 false (List.getD (toSl b) (Int.toNat c) nilp)) (when (isStr (List.getD (toSl b) (Int.toNat c) nilp)) (when ((decide (0 ≤ c)) && (decide (c < (List.length a : Int)))) (when (fits 1 false (List.getD a (Int.toNat c) nilp)) (when (isStr (List.getD a (Int.toNat c) nilp)) (ifB (!(ByteArray.toList (toStr (List.getD (toSl b) (Int.toNat c) nilp)) == ByteArray.toList (toStr (List.getD a (Int.toNat c) nilp))))
 (some (.ret, X_law08_WordsParts_2_0 false))
 (L_law08_WordsParts_2_0 R k w n a b (IntKind.wrap .i64 (c + 1)))))))))))
 (some ((.exit 2), X_law08_WordsParts_2_1)) := by kernel_rfl
theorem X_law08_WordsParts_2_0_eq (R : Orc) (k : Nat) (w a : Bool) : K_law08_WordsParts_2 R k w .ret (X_law08_WordsParts_2_0 a) = some ([.fz (.bool a)], []) := by kernel_rfl
theorem X_law08_WordsParts_2_1_eq (R : Orc) (k : Nat) (w : Bool) : K_law08_WordsParts_2 R k w (.exit 2) (X_law08_WordsParts_2_1) = onR (R N_law08_lives []) fun r8 => when (List.isEmpty r8.2 && allF [.fz] r8.1) (when (isBool (toF (List.getD r8.1 0 em))) (some ([.fz (.bool (toBool (toF (List.getD r8.1 0 em))))], []))) := by kernel_rfl
/-! keyhole/keyholelaw08.WordsJoin -/
def C_law08_WordsJoin : ACode := codeOf 5 Try.f5
def A_law08_WordsJoin_j1 : ACode := C_law08_WordsJoin.at [1, 1, 0, 1, 0, 1, 0, 0, 1, 0, 0, 1, 1, 0]
def A_law08_WordsJoin_s2 : ACode := C_law08_WordsJoin.at [1, 1, 0, 1, 0, 1, 0, 0, 1, 1]
def A_law08_WordsJoin_b1 : ACode := C_law08_WordsJoin.at [1, 1, 0, 1, 0, 1, 0, 0]
def A_law08_WordsJoin_j3 : ACode := C_law08_WordsJoin.at [1, 1, 0, 1, 1, 1, 1, 1, 0, 1, 1, 0, 1, 0, 0, 1, 0]
def A_law08_WordsJoin_b2 : ACode := C_law08_WordsJoin.at [1, 1, 0, 1, 1, 1, 1, 1, 0, 1, 1, 0, 1, 0, 0]
def A_law08_WordsJoin_s4 : ACode := C_law08_WordsJoin.at [1, 1, 0, 1, 1, 1, 1, 1, 0, 1, 1, 1]
def A_law08_WordsJoin_j5 : ACode := C_law08_WordsJoin.at [1, 1, 0, 1, 1, 1, 1, 1, 0]
def A_law08_WordsJoin_s6 : ACode := C_law08_WordsJoin.at [1, 1, 0, 1, 1]
def A_law08_WordsJoin_j7 : ACode := C_law08_WordsJoin.at [1, 1, 0]
def A_law08_WordsJoin : AFunc := ⟨3, [(.tmp 6, .fz)], C_law08_WordsJoin, none⟩
def J_law08_WordsJoin_7_0 (R : Orc) (k : Nat) (w : Bool) (a : List FV) (b : ByteArray) (c : Int) := execL R k w [] A_law08_WordsJoin_j7 Ans ⟨[(0, .fz (.sl a)), (1, .fz (.str b)), (2, .fz (.int .i64 c))], [(4095, .dead)]⟩ (kFin R [(.tmp 6, .fz)] [])
def K_law08_WordsJoin_1 (R : Orc) (k : Nat) (w : Bool) : AExit → St → Option Ans := (kBlk 0 (kSeq R k w [] A_law08_WordsJoin_s6 (kFin R [(.tmp 6, .fz)] [])))
def L_law08_WordsJoin_1_0 (R : Orc) (k : Nat) (w : Bool) (n : Nat) (a : List FV) (b : ByteArray) (c : Int) (d : ByteArray) (e : Int) := loopL R k w [] [0, 1, 2, 7, 8] [0, 1, 2, 6, 7] A_law08_WordsJoin_b1 n ⟨[(0, .fz (.sl a)), (1, .fz (.str b)), (2, .fz (.int .i64 c)), (7, .fz (.str d)), (8, .fz (.int .i64 e))], [(4095, .dead)]⟩
def X_law08_WordsJoin_1_0 (a : List FV) (b : ByteArray) (c : Int) (d : Bool) (e : ByteArray) : St := ⟨[(0, .fz (.sl a)), (1, .fz (.str b)), (2, .fz (.int .i64 c)), (6, .fz (.bool d)), (7, .fz (.str e))], [(4095, .dead)]⟩
def J_law08_WordsJoin_1_0 (R : Orc) (k : Nat) (w : Bool) (n : Nat) (a : List FV) (b : ByteArray) (c : Int) (d : ByteArray) (e : Int) := execL R k w [] A_law08_WordsJoin_j1 (AExit × St) ⟨[(0, .fz (.sl a)), (1, .fz (.str b)), (2, .fz (.int .i64 c)), (7, .fz (.str d)), (8, .fz (.int .i64 e))], [(4095, .dead)]⟩ (kBlk 1 (kSeq R k w [] A_law08_WordsJoin_s2 (kLoop R k w [] [0, 1, 2, 7, 8] [0, 1, 2, 6, 7] A_law08_WordsJoin_b1 n)))
def X_law08_WordsJoin_1_1 (a : List FV) (b : ByteArray) (c : Int) (d : ByteArray) : St := ⟨[(0, .fz (.sl a)), (1, .fz (.str b)), (2, .fz (.int .i64 c)), (7, .fz (.str d))], [(4095, .dead)]⟩
def J_law08_WordsJoin_5_0 (R : Orc) (k : Nat) (w : Bool) (a : ByteArray) (b : Int) := execL R k w [] A_law08_WordsJoin_j5 Ans ⟨[(1, .fz (.str a)), (2, .fz (.int .i64 b))], [(4095, .dead)]⟩ (kFin R [(.tmp 6, .fz)] [])
def K_law08_WordsJoin_2 (R : Orc) (k : Nat) (w : Bool) : AExit → St → Option Ans := (kBlk 2 (kSeq R k w [] A_law08_WordsJoin_s4 (kFin R [(.tmp 6, .fz)] [])))
def L_law08_WordsJoin_2_0 (R : Orc) (k : Nat) (w : Bool) (n : Nat) (a : ByteArray) (b : Int) (c : ByteArray) (d : Bool) (e : ByteArray) (f : Int) := loopL R k w [] [1, 2, 12, 13, 14, 15] [12, 13, 14] A_law08_WordsJoin_b2 n ⟨[(1, .fz (.str a)), (2, .fz (.int .i64 b)), (12, .fz (.str c)), (13, .fz (.bool d)), (14, .fz (.str e)), (15, .fz (.int .i64 f))], [(4095, .dead)]⟩
def J_law08_WordsJoin_3_0 (R : Orc) (k : Nat) (w : Bool) (n : Nat) (a : ByteArray) (b : Int) (c : ByteArray) (d : Bool) (e : ByteArray) (f : Int) := execL R k w [] A_law08_WordsJoin_j3 (AExit × St) ⟨[(1, .fz (.str a)), (2, .fz (.int .i64 b)), (12, .fz (.str c)), (13, .fz (.bool d)), (14, .fz (.str e)), (15, .fz (.int .i64 f))], [(4095, .dead)]⟩ (kLoop R k w [] [1, 2, 12, 13, 14, 15] [12, 13, 14] A_law08_WordsJoin_b2 n)
def X_law08_WordsJoin_2_0 (a : ByteArray) (b : Bool) (c : ByteArray) : St := ⟨[(12, .fz (.str a)), (13, .fz (.bool b)), (14, .fz (.str c))], [(4095, .dead)]⟩
theorem E_law08_WordsJoin (R : Orc) (k : Nat) (w : Bool) (a : List FV) (b : ByteArray) (c : Int) : callL R k w A_law08_WordsJoin [.fz (.sl a), .fz (.str b), .fz (.int .i64 c)] = ifB (decide ((List.length a : Int) > 100))
 (onR (R N_law08_lives []) fun r0 => when (List.isEmpty r0.2 && allF [.fz] r0.1) (when (isBool (toF (List.getD r0.1 0 em))) (some ([.fz (.bool (toBool (toF (List.getD r0.1 0 em))))], []))))
 (ifB (decide ((ByteArray.size b : Int) > 5000))
 (onR (R N_law08_lives []) fun r1 => when (List.isEmpty r1.2 && allF [.fz] r1.1) (when (isBool (toF (List.getD r1.1 0 em))) (some ([.fz (.bool (toBool (toF (List.getD r1.1 0 em))))], []))))
 (jump w (J_law08_WordsJoin_7_0 R k w a b c))) := by kernel_rfl
theorem J_law08_WordsJoin_7_0_eq (R : Orc) (k : Nat) (w : Bool) (a : List FV) (b : ByteArray) (c : Int) : J_law08_WordsJoin_7_0 R k w a b c = onL (L_law08_WordsJoin_1_0 R k w k a b c (⟨#[]⟩ : ByteArray) 0) (K_law08_WordsJoin_1 R k w) := by kernel_rfl
theorem L_law08_WordsJoin_1_0_eq (R : Orc) (k : Nat) (w : Bool) (n : Nat) (a : List FV) (b : ByteArray) (c : Int) (d : ByteArray) (e : Int) : L_law08_WordsJoin_1_0 R k w (n + 1) a b c d e = ifB (decide (e < (List.length a : Int)))
 (when ((decide (0 ≤ e)) && (decide (e < (List.length a : Int)))) (when (fits 1 false (List.getD a (Int.toNat e) nilp)) (when (isStr (List.getD a (Int.toNat e) nilp)) (ifB (decide ((ByteArray.size (toStr (List.getD a (Int.toNat e) nilp)) : Int) > 5000))
 (onR (R N_law08_lives []) fun r2 => when (List.isEmpty r2.2 && allF [.fz] r2.1) (when (isBool (toF (List.getD r2.1 0 em))) (some (.ret, X_law08_WordsJoin_1_0 a b c (toBool (toF (List.getD r2.1 0 em))) d))))
 (ifB (decide (e > 0))
 (when (decide (ByteArray.size d + ByteArray.size b ≤ 2 ^ 62)) (jump w (J_law08_WordsJoin_1_0 R k w n a b c (d ++ b) e)))
 (jump w (J_law08_WordsJoin_1_0 R k w n a b c d e)))))))
 (some ((.exit 0), X_law08_WordsJoin_1_1 a b c d)) := by kernel_rfl
theorem X_law08_WordsJoin_1_0_eq (R : Orc) (k : Nat) (w : Bool) (a : List FV) (b : ByteArray) (c : Int) (d : Bool) (e : ByteArray) : K_law08_WordsJoin_1 R k w .ret (X_law08_WordsJoin_1_0 a b c d e) = some ([.fz (.bool d)], []) := by kernel_rfl
theorem J_law08_WordsJoin_1_0_eq (R : Orc) (k : Nat) (w : Bool) (n : Nat) (a : List FV) (b : ByteArray) (c : Int) (d : ByteArray) (e : Int) : J_law08_WordsJoin_1_0 R k w n a b c d e = when ((decide (0 ≤ e)) && (decide (e < (List.length a : Int)))) (when (fits 1 false (List.getD a (Int.toNat e) nilp)) (when (isStr (List.getD a (Int.toNat e) nilp)) (when (decide (ByteArray.size d + ByteArray.size (toStr (List.getD a (Int.toNat e) nilp)) ≤ 2 ^ 62)) (L_law08_WordsJoin_1_0 R k w n a b c (d ++ (toStr (List.getD a (Int.toNat e) nilp))) (IntKind.wrap .i64 (e + 1)))))) := by kernel_rfl
theorem X_law08_WordsJoin_1_1_eq (R : Orc) (k : Nat) (w : Bool) (a : List FV) (b : ByteArray) (c : Int) (d : ByteArray) : K_law08_WordsJoin_1 R k w (.exit 0) (X_law08_WordsJoin_1_1 a b c d) = onR (R N_words_Join [.fz (.sl a), .fz (.str b)]) fun r3 => when (List.isEmpty r3.2 && allF [.fz, .fz] r3.1) (when (isStr (toF (List.getD r3.1 0 em))) (when (isBool (toF (List.getD r3.1 1 em))) (ifB (!((toBool (toF (List.getD r3.1 1 em))) == (decide ((ByteArray.size d : Int) ≤ 4096))))
 (some ([.fz (.bool false)], []))
 (ifB (decide ((ByteArray.size d : Int) ≤ 4096))
 (ifB (!(ByteArray.toList (toStr (toF (List.getD r3.1 0 em))) == ByteArray.toList d))
 (some ([.fz (.bool false)], []))
 (ifB (!(decide ((ByteArray.size d : Int) ≤ 4096)))
 (ifB (!(ByteArray.toList (toStr (toF (List.getD r3.1 0 em))) == ByteArray.toList (⟨#[]⟩ : ByteArray)))
 (some ([.fz (.bool false)], []))
 (jump w (J_law08_WordsJoin_5_0 R k w b c)))
 (jump w (J_law08_WordsJoin_5_0 R k w b c))))
 (ifB (!(decide ((ByteArray.size d : Int) ≤ 4096)))
 (ifB (!(ByteArray.toList (toStr (toF (List.getD r3.1 0 em))) == ByteArray.toList (⟨#[]⟩ : ByteArray)))
 (some ([.fz (.bool false)], []))
 (jump w (J_law08_WordsJoin_5_0 R k w b c)))
 (jump w (J_law08_WordsJoin_5_0 R k w b c))))))) := by kernel_rfl
theorem J_law08_WordsJoin_5_0_eq (R : Orc) (k : Nat) (w : Bool) (a : ByteArray) (b : Int) : J_law08_WordsJoin_5_0 R k w a b = onR (R N_words_Times [.fz (.str a), .fz (.int .i64 b)]) fun r4 => when (List.isEmpty r4.2 && allF [.fz, .fz] r4.1) (when (isStr (toF (List.getD r4.1 0 em))) (when (isBool (toF (List.getD r4.1 1 em))) (onL (L_law08_WordsJoin_2_0 R k w k a b (toStr (toF (List.getD r4.1 0 em))) (toBool (toF (List.getD r4.1 1 em))) (⟨#[]⟩ : ByteArray) 0) (K_law08_WordsJoin_2 R k w)))) := by kernel_rfl
theorem L_law08_WordsJoin_2_0_eq (R : Orc) (k : Nat) (w : Bool) (n : Nat) (a : ByteArray) (b : Int) (c : ByteArray) (d : Bool) (e : ByteArray) (f : Int) : L_law08_WordsJoin_2_0 R k w (n + 1) a b c d e f = ifB (decide (f < b))
 (ifB (decide ((ByteArray.size e : Int) ≤ 4096))
 (ifB (decide ((ByteArray.size a : Int) > 0))
 (jump w (J_law08_WordsJoin_3_0 R k w n a b c d e f))
 (some ((.exit 2), X_law08_WordsJoin_2_0 c d e)))
 (some ((.exit 2), X_law08_WordsJoin_2_0 c d e)))
 (some ((.exit 2), X_law08_WordsJoin_2_0 c d e)) := by kernel_rfl
theorem J_law08_WordsJoin_3_0_eq (R : Orc) (k : Nat) (w : Bool) (n : Nat) (a : ByteArray) (b : Int) (c : ByteArray) (d : Bool) (e : ByteArray) (f : Int) : J_law08_WordsJoin_3_0 R k w n a b c d e f = when (decide (ByteArray.size e + ByteArray.size a ≤ 2 ^ 62)) (L_law08_WordsJoin_2_0 R k w n a b c d (e ++ a) (IntKind.wrap .i64 (f + 1))) := by kernel_rfl
theorem X_law08_WordsJoin_2_0_eq (R : Orc) (k : Nat) (w : Bool) (a : ByteArray) (b : Bool) (c : ByteArray) : K_law08_WordsJoin_2 R k w (.exit 2) (X_law08_WordsJoin_2_0 a b c) = ifB (decide ((ByteArray.size c : Int) > 4096))
 (ifB (ByteArray.toList a == ByteArray.toList (⟨#[]⟩ : ByteArray))
 (ifB (!b)
 (onR (R N_law08_lives []) fun r5 => when (List.isEmpty r5.2 && allF [.fz] r5.1) (when (isBool (toF (List.getD r5.1 0 em))) (some ([.fz (.bool (toBool (toF (List.getD r5.1 0 em))))], []))))
 (some ([.fz (.bool false)], [])))
 (some ([.fz (.bool false)], [])))
 (ifB (ByteArray.toList a == ByteArray.toList c)
 (ifB b
 (onR (R N_law08_lives []) fun r6 => when (List.isEmpty r6.2 && allF [.fz] r6.1) (when (isBool (toF (List.getD r6.1 0 em))) (some ([.fz (.bool (toBool (toF (List.getD r6.1 0 em))))], []))))
 (some ([.fz (.bool false)], [])))
 (some ([.fz (.bool false)], []))) := by kernel_rfl
/-! keyhole/keyholelaw08.lives -/
def C_law08_lives : ACode := codeOf 6 Try.f6
def A_law08_lives : AFunc := ⟨0, [(.tmp 0, .fz)], C_law08_lives, none⟩
theorem E_law08_lives (R : Orc) (k : Nat) (w : Bool) : callL R k w A_law08_lives [] = onR (R N_words_Split [.fz (.str (⟨#[97, 44, 98, 44, 44]⟩ : ByteArray)), .fz (.str (⟨#[44]⟩ : ByteArray))]) fun r0 => when (List.isEmpty r0.2 && allF [.fz, .fz] r0.1) (when (isBool (toF (List.getD r0.1 1 em))) (ifB (toBool (toF (List.getD r0.1 1 em)))
 (when (isSl (toF (List.getD r0.1 0 em))) (ifB ((List.length (toSl (toF (List.getD r0.1 0 em))) : Int) == 4)
 (when (isSl (toF (List.getD r0.1 0 em))) (when (decide (0 < (List.length (toSl (toF (List.getD r0.1 0 em))) : Int))) (when (fits 1 false (List.getD (toSl (toF (List.getD r0.1 0 em))) 0 nilp)) (when (isStr (List.getD (toSl (toF (List.getD r0.1 0 em))) 0 nilp)) (ifB (ByteArray.toList (toStr (List.getD (toSl (toF (List.getD r0.1 0 em))) 0 nilp)) == ByteArray.toList (⟨#[97]⟩ : ByteArray))
 (when (isSl (toF (List.getD r0.1 0 em))) (when (decide (1 < (List.length (toSl (toF (List.getD r0.1 0 em))) : Int))) (when (fits 1 false (List.getD (toSl (toF (List.getD r0.1 0 em))) 1 nilp)) (when (isStr (List.getD (toSl (toF (List.getD r0.1 0 em))) 1 nilp)) (ifB (ByteArray.toList (toStr (List.getD (toSl (toF (List.getD r0.1 0 em))) 1 nilp)) == ByteArray.toList (⟨#[98]⟩ : ByteArray))
 (when (isSl (toF (List.getD r0.1 0 em))) (when (decide (3 < (List.length (toSl (toF (List.getD r0.1 0 em))) : Int))) (when (fits 1 false (List.getD (toSl (toF (List.getD r0.1 0 em))) 3 nilp)) (when (isStr (List.getD (toSl (toF (List.getD r0.1 0 em))) 3 nilp)) (some ([.fz (.bool (ByteArray.toList (toStr (List.getD (toSl (toF (List.getD r0.1 0 em))) 3 nilp)) == ByteArray.toList (⟨#[]⟩ : ByteArray)))], []))))))
 (some ([.fz (.bool false)], [])))))))
 (some ([.fz (.bool false)], [])))))))
 (some ([.fz (.bool false)], []))))
 (some ([.fz (.bool false)], [])))) := by kernel_rfl
/-! keyhole/words.Split -/
def C_words_Split : ACode := codeOf 10 Try.f10
def A_words_Split_b1 : ACode := C_words_Split.at [1, 1, 1, 0, 0, 0]
def A_words_Split_s1 : ACode := C_words_Split.at [1, 1, 1, 1]
def A_words_Split : AFunc := ⟨2, [(.tmp 4, .fz), (.tmp 5, .fz)], C_words_Split, none⟩
def K_words_Split_1 (R : Orc) (k : Nat) (w : Bool) : AExit → St → Option Ans := (kBlk 0 (kSeq R k w [] A_words_Split_s1 (kFin R [(.tmp 4, .fz), (.tmp 5, .fz)] [])))
def L_words_Split_1_0 (R : Orc) (k : Nat) (w : Bool) (n : Nat) (a b : ByteArray) := loopL R k w [] [0, 1, 6] [4, 5] A_words_Split_b1 n ⟨[(0, .fz (.str a)), (1, .fz (.str b)), (6, .nils)], [(4095, .dead)]⟩
def X_words_Split_1_0 (a : Bool) (b : List FV) : St := ⟨[(4, .rw 4096), (5, .fz (.bool a))], [(4095, .dead), (4096, .row 1 false b)]⟩
def L_words_Split_1_1 (R : Orc) (k : Nat) (w : Bool) (n : Nat) (a b : ByteArray) (c : List FV) := loopL R k w [] [0, 1, 6] [4, 5] A_words_Split_b1 n ⟨[(0, .fz (.str a)), (1, .fz (.str b)), (6, .rw 4096)], [(4095, .dead), (4096, .row 1 false c)]⟩
def X_words_Split_1_1 : St := ⟨[], [(4095, .dead)]⟩
theorem E_words_Split (R : Orc) (k : Nat) (w : Bool) (a b : ByteArray) : callL R k w A_words_Split [.fz (.str a), .fz (.str b)] = ifB (ByteArray.toList b == ByteArray.toList (⟨#[]⟩ : ByteArray))
 (onR (R N_words_signs [.fz (.str a)]) fun r0 => when (List.isEmpty r0.2 && allF [.fz, .fz] r0.1) (when (isBool (toF (List.getD r0.1 1 em))) (some ([.fz (toF (List.getD r0.1 0 em)), .fz (.bool (toBool (toF (List.getD r0.1 1 em))))], []))))
 (onL (L_words_Split_1_0 R k w k a b) (K_words_Split_1 R k w)) := by kernel_rfl
theorem L_words_Split_1_0_eq (R : Orc) (k : Nat) (w : Bool) (n : Nat) (a b : ByteArray) : L_words_Split_1_0 R k w (n + 1) a b = onR (R N_strings_Cut [.fz (.str a), .fz (.str b)]) fun r1 => when (List.isEmpty r1.2 && allF [.fz, .fz, .fz] r1.1) (when (isStr (toF (List.getD r1.1 0 em))) (when (isStr (toF (List.getD r1.1 1 em))) (when (isBool (toF (List.getD r1.1 2 em))) (when (decide (((0 : Nat) + List.length [(FV.str (toStr (toF (List.getD r1.1 0 em))))]) * 16 ≤ roomy) && decide ((0 : Nat) + List.length [(FV.str (toStr (toF (List.getD r1.1 0 em))))] ≤ roomy)) (ifB (!(toBool (toF (List.getD r1.1 2 em))))
 (some (.ret, X_words_Split_1_0 true [(.str (toStr (toF (List.getD r1.1 0 em))))]))
 (L_words_Split_1_1 R k w n (toStr (toF (List.getD r1.1 1 em))) b [(.str (toStr (toF (List.getD r1.1 0 em))))])))))) := by kernel_rfl
theorem X_words_Split_1_0_eq (R : Orc) (k : Nat) (w a : Bool) (b : List FV) : K_words_Split_1 R k w .ret (X_words_Split_1_0 a b) = some ([.fz (.sl b), .fz (.bool a)], []) := by kernel_rfl
theorem L_words_Split_1_1_eq (R : Orc) (k : Nat) (w : Bool) (n : Nat) (a b : ByteArray) (c : List FV) : L_words_Split_1_1 R k w (n + 1) a b c = ifB (decide ((List.length c : Int) < 4096))
 (onR (R N_strings_Cut [.fz (.str a), .fz (.str b)]) fun r2 => when (List.isEmpty r2.2 && allF [.fz, .fz, .fz] r2.1) (when (isStr (toF (List.getD r2.1 0 em))) (when (isStr (toF (List.getD r2.1 1 em))) (when (isBool (toF (List.getD r2.1 2 em))) (when (decide ((List.length c + List.length [(FV.str (toStr (toF (List.getD r2.1 0 em))))]) * 16 ≤ roomy) && decide (List.length c + List.length [(FV.str (toStr (toF (List.getD r2.1 0 em))))] ≤ roomy)) (ifB (!(toBool (toF (List.getD r2.1 2 em))))
 (some (.ret, X_words_Split_1_0 true (c ++ [(FV.str (toStr (toF (List.getD r2.1 0 em))))])))
 (L_words_Split_1_1 R k w n (toStr (toF (List.getD r2.1 1 em))) b (c ++ [(FV.str (toStr (toF (List.getD r2.1 0 em))))]))))))))
 (some ((.exit 0), X_words_Split_1_1)) := by kernel_rfl
theorem X_words_Split_1_1_eq (R : Orc) (k : Nat) (w : Bool) : K_words_Split_1 R k w (.exit 0) (X_words_Split_1_1) = some ([.fz (.sl []), .fz (.bool false)], []) := by kernel_rfl
/-! keyhole/words.Has -/
def C_words_Has : ACode := codeOf 11 Try.f11
def A_words_Has : AFunc := ⟨2, [(.tmp 4, .fz)], C_words_Has, none⟩
theorem E_words_Has (R : Orc) (k : Nat) (w : Bool) (a b : ByteArray) : callL R k w A_words_Has [.fz (.str a), .fz (.str b)] = onR (R N_strings_Index [.fz (.str a), .fz (.str b)]) fun r0 => when (List.isEmpty r0.2 && allF [.fz] r0.1) (when (isInt .i64 (toF (List.getD r0.1 0 em))) (some ([.fz (.bool (decide ((toInt (toF (List.getD r0.1 0 em))) ≥ 0)))], []))) := by kernel_rfl
/-! keyhole/words.Join -/
def C_words_Join : ACode := codeOf 12 Try.f12
def A_words_Join_j1 : ACode := C_words_Join.at [1, 1, 0, 1, 0, 0, 1, 1, 0, 0, 1, 1, 0]
def A_words_Join_s2 : ACode := C_words_Join.at [1, 1, 0, 1, 0, 0, 1, 1, 1]
def A_words_Join_b1 : ACode := C_words_Join.at [1, 1, 0, 1, 0, 0]
def A_words_Join_s3 : ACode := C_words_Join.at [1, 1, 1]
def A_words_Join : AFunc := ⟨2, [(.tmp 4, .fz), (.tmp 5, .fz)], C_words_Join, none⟩
def K_words_Join_1 (R : Orc) (k : Nat) (w : Bool) : AExit → St → Option Ans := (kBlk 0 (kSeq R k w [] A_words_Join_s3 (kFin R [(.tmp 4, .fz), (.tmp 5, .fz)] [])))
def L_words_Join_1_0 (R : Orc) (k : Nat) (w : Bool) (n : Nat) (a : List FV) (b : ByteArray) (c : Int) (d : List FV) (e f : Int) := loopL R k w [] [0, 1, 6, 9, 10, 11] [0, 1, 4, 5] A_words_Join_b1 n ⟨[(0, .fz (.sl a)), (1, .fz (.str b)), (6, .fz (.int .i64 c)), (9, .fz (.sl d)), (10, .fz (.int .i64 e)), (11, .fz (.int .i64 f))], [(4095, .dead)]⟩
def J_words_Join_1_0 (R : Orc) (k : Nat) (w : Bool) (n : Nat) (a : List FV) (b : ByteArray) (c : Int) (d : ByteArray) (e : List FV) (f g : Int) := execL R k w [] A_words_Join_j1 (AExit × St) ⟨[(0, .fz (.sl a)), (1, .fz (.str b)), (6, .fz (.int .i64 c)), (8, .fz (.str d)), (9, .fz (.sl e)), (10, .fz (.int .i64 f)), (11, .fz (.int .i64 g))], [(4095, .dead)]⟩ (kBlk 1 (kSeq R k w [] A_words_Join_s2 (kLoop R k w [] [0, 1, 6, 9, 10, 11] [0, 1, 4, 5] A_words_Join_b1 n)))
def X_words_Join_1_0 (a : List FV) (b : ByteArray) : St := ⟨[(0, .fz (.sl a)), (1, .fz (.str b))], [(4095, .dead)]⟩
def X_words_Join_1_1 (a : List FV) (b c : ByteArray) (d : Bool) : St := ⟨[(0, .fz (.sl a)), (1, .fz (.str b)), (4, .fz (.str c)), (5, .fz (.bool d))], [(4095, .dead)]⟩
theorem E_words_Join (R : Orc) (k : Nat) (w : Bool) (a : List FV) (b : ByteArray) : callL R k w A_words_Join [.fz (.sl a), .fz (.str b)] = onL (L_words_Join_1_0 R k w k a b 4096 a (List.length a : Int) 0) (K_words_Join_1 R k w) := by kernel_rfl
theorem L_words_Join_1_0_eq (R : Orc) (k : Nat) (w : Bool) (n : Nat) (a : List FV) (b : ByteArray) (c : Int) (d : List FV) (e f : Int) : L_words_Join_1_0 R k w (n + 1) a b c d e f = ifB (decide (f < e))
 (when ((decide (0 ≤ f)) && (decide (f < (List.length d : Int)))) (when (fits 1 false (List.getD d (Int.toNat f) nilp)) (when (isStr (List.getD d (Int.toNat f) nilp)) (ifB (decide (f > 0))
 (jump w (J_words_Join_1_0 R k w n a b (IntKind.wrap .i64 (c - (ByteArray.size b : Int))) (toStr (List.getD d (Int.toNat f) nilp)) d e f))
 (jump w (J_words_Join_1_0 R k w n a b c (toStr (List.getD d (Int.toNat f) nilp)) d e f))))))
 (some ((.exit 0), X_words_Join_1_0 a b)) := by kernel_rfl
theorem J_words_Join_1_0_eq (R : Orc) (k : Nat) (w : Bool) (n : Nat) (a : List FV) (b : ByteArray) (c : Int) (d : ByteArray) (e : List FV) (f g : Int) : J_words_Join_1_0 R k w n a b c d e f g = ifB (decide ((IntKind.wrap .i64 (c - (ByteArray.size d : Int))) < 0))
 (some (.ret, X_words_Join_1_1 a b (⟨#[]⟩ : ByteArray) false))
 (L_words_Join_1_0 R k w n a b (IntKind.wrap .i64 (c - (ByteArray.size d : Int))) e f (IntKind.wrap .i64 (g + 1))) := by kernel_rfl
theorem X_words_Join_1_0_eq (R : Orc) (k : Nat) (w : Bool) (a : List FV) (b : ByteArray) : K_words_Join_1 R k w (.exit 0) (X_words_Join_1_0 a b) = onR (R N_strings_Join [.fz (.sl a), .fz (.str b)]) fun r0 => when (List.isEmpty r0.2 && allF [.fz] r0.1) (when (isStr (toF (List.getD r0.1 0 em))) (some ([.fz (.str (toStr (toF (List.getD r0.1 0 em)))), .fz (.bool true)], []))) := by kernel_rfl
theorem X_words_Join_1_1_eq (R : Orc) (k : Nat) (w : Bool) (a : List FV) (b c : ByteArray) (d : Bool) : K_words_Join_1 R k w .ret (X_words_Join_1_1 a b c d) = some ([.fz (.str c), .fz (.bool d)], []) := by kernel_rfl
/-! keyhole/words.Times -/
def C_words_Times : ACode := codeOf 13 Try.f13
def A_words_Times_j1 : ACode := C_words_Times.at [1, 1, 0]
def A_words_Times : AFunc := ⟨2, [(.tmp 4, .fz), (.tmp 5, .fz)], C_words_Times, none⟩
def J_words_Times_1_0 (R : Orc) (k : Nat) (w : Bool) (a : ByteArray) (b : Int) := execL R k w [] A_words_Times_j1 Ans ⟨[(0, .fz (.str a)), (1, .fz (.int .i64 b))], [(4095, .dead)]⟩ (kFin R [(.tmp 4, .fz), (.tmp 5, .fz)] [])
theorem E_words_Times (R : Orc) (k : Nat) (w : Bool) (a : ByteArray) (b : Int) : callL R k w A_words_Times [.fz (.str a), .fz (.int .i64 b)] = ifB (ByteArray.toList a == ByteArray.toList (⟨#[]⟩ : ByteArray))
 (some ([.fz (.str (⟨#[]⟩ : ByteArray)), .fz (.bool true)], []))
 (ifB (decide (b < 1))
 (some ([.fz (.str (⟨#[]⟩ : ByteArray)), .fz (.bool true)], []))
 (jump w (J_words_Times_1_0 R k w a b))) := by kernel_rfl
theorem J_words_Times_1_0_eq (R : Orc) (k : Nat) (w : Bool) (a : ByteArray) (b : Int) : J_words_Times_1_0 R k w a b = when (!decide ((ByteArray.size a : Int) = 0)) (ifB (decide (b > (IntKind.wrap .i64 (Int.tdiv 4096 (ByteArray.size a : Int)))))
 (some ([.fz (.str (⟨#[]⟩ : ByteArray)), .fz (.bool false)], []))
 (onR (R N_strings_Repeat [.fz (.str a), .fz (.int .i64 b)]) fun r0 => when (List.isEmpty r0.2 && allF [.fz] r0.1) (when (isStr (toF (List.getD r0.1 0 em))) (some ([.fz (.str (toStr (toF (List.getD r0.1 0 em)))), .fz (.bool true)], []))))) := by kernel_rfl
/-! keyhole/words.signs -/
def C_words_signs : ACode := codeOf 14 Try.f14
def A_words_signs_b1 : ACode := C_words_signs.at [1, 1, 1, 1, 0, 0, 0]
def A_words_signs_s1 : ACode := C_words_signs.at [1, 1, 1, 1, 1]
def A_words_signs : AFunc := ⟨1, [(.tmp 2, .fz), (.tmp 3, .fz)], C_words_signs, none⟩
def K_words_signs_1 (R : Orc) (k : Nat) (w : Bool) : AExit → St → Option Ans := (kBlk 0 (kSeq R k w [] A_words_signs_s1 (kFin R [(.tmp 2, .fz), (.tmp 3, .fz)] [])))
def L_words_signs_1_0 (R : Orc) (k : Nat) (w : Bool) (n : Nat) (a : ByteArray) (b : Int) := loopL R k w [] [0, 4, 5] [5] A_words_signs_b1 n ⟨[(0, .fz (.str a)), (4, .fz (.int .i64 b)), (5, .nils)], [(4095, .dead)]⟩
def L_words_signs_1_1 (R : Orc) (k : Nat) (w : Bool) (n : Nat) (a : ByteArray) (b : Int) (c : List FV) := loopL R k w [] [0, 4, 5] [5] A_words_signs_b1 n ⟨[(0, .fz (.str a)), (4, .fz (.int .i64 b)), (5, .rw 4096)], [(4095, .dead), (4096, .row 1 false c)]⟩
def X_words_signs_1_0 : St := ⟨[(5, .nils)], [(4095, .dead)]⟩
def X_words_signs_1_1 (a : List FV) : St := ⟨[(5, .rw 4096)], [(4095, .dead), (4096, .row 1 false a)]⟩
theorem E_words_signs (R : Orc) (k : Nat) (w : Bool) (a : ByteArray) : callL R k w A_words_signs [.fz (.str a)] = onR (R N_utf_Signs [.fz (.str a)]) fun r0 => when (List.isEmpty r0.2 && allF [.fz] r0.1) (when (isInt .i64 (toF (List.getD r0.1 0 em))) (ifB (decide ((toInt (toF (List.getD r0.1 0 em))) > 4096))
 (some ([.fz (.sl []), .fz (.bool false)], []))
 (onL (L_words_signs_1_0 R k w k a (toInt (toF (List.getD r0.1 0 em)))) (K_words_signs_1 R k w)))) := by kernel_rfl
theorem L_words_signs_1_0_eq (R : Orc) (k : Nat) (w : Bool) (n : Nat) (a : ByteArray) (b : Int) : L_words_signs_1_0 R k w (n + 1) a b = ifB (decide (b > 0))
 (onR (R N_utf_First [.fz (.str a), .fz (.int .i64 1)]) fun r1 => when (List.isEmpty r1.2 && allF [.fz] r1.1) (when (isStr (toF (List.getD r1.1 0 em))) (when (decide (((0 : Nat) + List.length [(FV.str (toStr (toF (List.getD r1.1 0 em))))]) * 16 ≤ roomy) && decide ((0 : Nat) + List.length [(FV.str (toStr (toF (List.getD r1.1 0 em))))] ≤ roomy)) (when (decide (0 ≤ (ByteArray.size a : Int)) && decide ((ByteArray.size a : Int) ≤ (ByteArray.size a : Int))) (when (decide (0 ≤ (ByteArray.size (toStr (toF (List.getD r1.1 0 em))) : Int)) && decide ((ByteArray.size (toStr (toF (List.getD r1.1 0 em))) : Int) ≤ (ByteArray.size a : Int))) (L_words_signs_1_1 R k w n (ByteArray.extract a (Int.toNat (ByteArray.size (toStr (toF (List.getD r1.1 0 em))) : Int)) (Int.toNat (ByteArray.size a : Int))) (IntKind.wrap .i64 (b - 1)) [(.str (toStr (toF (List.getD r1.1 0 em))))]))))))
 (some ((.exit 0), X_words_signs_1_0)) := by kernel_rfl
theorem L_words_signs_1_1_eq (R : Orc) (k : Nat) (w : Bool) (n : Nat) (a : ByteArray) (b : Int) (c : List FV) : L_words_signs_1_1 R k w (n + 1) a b c = ifB (decide (b > 0))
 (onR (R N_utf_First [.fz (.str a), .fz (.int .i64 1)]) fun r2 => when (List.isEmpty r2.2 && allF [.fz] r2.1) (when (isStr (toF (List.getD r2.1 0 em))) (when (decide ((List.length c + List.length [(FV.str (toStr (toF (List.getD r2.1 0 em))))]) * 16 ≤ roomy) && decide (List.length c + List.length [(FV.str (toStr (toF (List.getD r2.1 0 em))))] ≤ roomy)) (when (decide (0 ≤ (ByteArray.size a : Int)) && decide ((ByteArray.size a : Int) ≤ (ByteArray.size a : Int))) (when (decide (0 ≤ (ByteArray.size (toStr (toF (List.getD r2.1 0 em))) : Int)) && decide ((ByteArray.size (toStr (toF (List.getD r2.1 0 em))) : Int) ≤ (ByteArray.size a : Int))) (L_words_signs_1_1 R k w n (ByteArray.extract a (Int.toNat (ByteArray.size (toStr (toF (List.getD r2.1 0 em))) : Int)) (Int.toNat (ByteArray.size a : Int))) (IntKind.wrap .i64 (b - 1)) (c ++ [(FV.str (toStr (toF (List.getD r2.1 0 em))))])))))))
 (some ((.exit 0), X_words_signs_1_1 c)) := by kernel_rfl
theorem X_words_signs_1_0_eq (R : Orc) (k : Nat) (w : Bool) : K_words_signs_1 R k w (.exit 0) (X_words_signs_1_0) = some ([.fz (.sl []), .fz (.bool true)], []) := by kernel_rfl
theorem X_words_signs_1_1_eq (R : Orc) (k : Nat) (w : Bool) (a : List FV) : K_words_signs_1 R k w (.exit 0) (X_words_signs_1_1 a) = some ([.fz (.sl a), .fz (.bool true)], []) := by kernel_rfl
/-! strings.Cut -/
def C_strings_Cut : ACode := codeOf 15 Try.f15
def A_strings_Cut : AFunc := ⟨2, [(.tmp 4, .fz), (.tmp 5, .fz), (.tmp 6, .fz)], C_strings_Cut, none⟩
theorem E_strings_Cut (R : Orc) (k : Nat) (w : Bool) (a b : ByteArray) : callL R k w A_strings_Cut [.fz (.str a), .fz (.str b)] = onR (R N_internal_stringslite_Cut [.fz (.str a), .fz (.str b)]) fun r0 => when (List.isEmpty r0.2 && allF [.fz, .fz, .fz] r0.1) (when (isStr (toF (List.getD r0.1 0 em))) (when (isStr (toF (List.getD r0.1 1 em))) (when (isBool (toF (List.getD r0.1 2 em))) (some ([.fz (.str (toStr (toF (List.getD r0.1 0 em)))), .fz (.str (toStr (toF (List.getD r0.1 1 em)))), .fz (.bool (toBool (toF (List.getD r0.1 2 em))))], []))))) := by kernel_rfl
/-! internal/stringslite.Cut -/
def C_internal_stringslite_Cut : ACode := codeOf 21 Try.f21
def A_internal_stringslite_Cut : AFunc := ⟨2, [(.tmp 4, .fz), (.tmp 5, .fz), (.tmp 6, .fz)], C_internal_stringslite_Cut, none⟩
theorem E_internal_stringslite_Cut (R : Orc) (k : Nat) (w : Bool) (a b : ByteArray) : callL R k w A_internal_stringslite_Cut [.fz (.str a), .fz (.str b)] = onR (R N_internal_stringslite_Index [.fz (.str a), .fz (.str b)]) fun r0 => when (List.isEmpty r0.2 && allF [.fz] r0.1) (when (isInt .i64 (toF (List.getD r0.1 0 em))) (ifB (decide ((toInt (toF (List.getD r0.1 0 em))) ≥ 0))
 (when (decide (0 ≤ (toInt (toF (List.getD r0.1 0 em)))) && decide ((toInt (toF (List.getD r0.1 0 em))) ≤ (ByteArray.size a : Int))) (when (decide (0 ≤ 0) && decide (0 ≤ (toInt (toF (List.getD r0.1 0 em))))) (when (decide (0 ≤ (ByteArray.size a : Int)) && decide ((ByteArray.size a : Int) ≤ (ByteArray.size a : Int))) (when (decide (0 ≤ (IntKind.wrap .i64 ((toInt (toF (List.getD r0.1 0 em))) + (ByteArray.size b : Int)))) && decide ((IntKind.wrap .i64 ((toInt (toF (List.getD r0.1 0 em))) + (ByteArray.size b : Int))) ≤ (ByteArray.size a : Int))) (some ([.fz (.str (ByteArray.extract a 0 (Int.toNat (toInt (toF (List.getD r0.1 0 em)))))), .fz (.str (ByteArray.extract a (Int.toNat (IntKind.wrap .i64 ((toInt (toF (List.getD r0.1 0 em))) + (ByteArray.size b : Int)))) (Int.toNat (ByteArray.size a : Int)))), .fz (.bool true)], []))))))
 (some ([.fz (.str a), .fz (.str (⟨#[]⟩ : ByteArray)), .fz (.bool false)], [])))) := by kernel_rfl
end
end Go.Ab
