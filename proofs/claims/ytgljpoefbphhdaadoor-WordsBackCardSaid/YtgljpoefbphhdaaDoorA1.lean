-- Written by a program of the session, out of the translation. Lean checks it.
import Derived.Test.YtgljpoefbphhdaaDoorA0
namespace Go.Ab
open Go.Proofs FV TV
set_option linter.unusedVariables false
set_option maxRecDepth 100000
noncomputable section
/-! keyhole/keyholelaw08.WordsTurn -/
def C_law08_WordsTurn : ACode := codeOf 3 Tryd.f3
def A_law08_WordsTurn : AFunc := ⟨2, [(.tmp 4, .fz)], C_law08_WordsTurn, none⟩
/-! keyhole/keyholelaw08.WordsBack -/
def C_law08_WordsBack : ACode := codeOf 4 Tryd.f4
def A_law08_WordsBack_j1 : ACode := C_law08_WordsBack.at [1, 1, 0, 1, 1, 1, 0, 0, 1, 0, 0, 1, 0]
def A_law08_WordsBack_b1 : ACode := C_law08_WordsBack.at [1, 1, 0, 1, 1, 1, 0, 0, 1, 0, 0]
def A_law08_WordsBack_s2 : ACode := C_law08_WordsBack.at [1, 1, 0, 1, 1, 1, 0, 1]
def A_law08_WordsBack_j3 : ACode := C_law08_WordsBack.at [1, 1, 0, 1, 1, 1, 0]
def A_law08_WordsBack_j4 : ACode := C_law08_WordsBack.at [1, 1, 0]
def A_law08_WordsBack : AFunc := ⟨2, [(.tmp 4, .fz)], C_law08_WordsBack, none⟩
def J_law08_WordsBack_4_0 (R : Orc) (k : Nat) (w : Bool) (a b : ByteArray) := execL R k w [] A_law08_WordsBack_j4 Ans ⟨[(0, .fz (.str a)), (1, .fz (.str b))], [(4095, .dead)]⟩ (kFin R [(.tmp 4, .fz)] [])
def J_law08_WordsBack_3_0 (R : Orc) (k : Nat) (w : Bool) (a b : ByteArray) (c : FV) := execL R k w [] A_law08_WordsBack_j3 Ans ⟨[(0, .fz (.str a)), (1, .fz (.str b)), (5, .fz c)], [(4095, .dead)]⟩ (kFin R [(.tmp 4, .fz)] [])
def K_law08_WordsBack_1 (R : Orc) (k : Nat) (w : Bool) : AExit → St → Option Ans := (kBlk 0 (kSeq R k w [] A_law08_WordsBack_s2 (kFin R [(.tmp 4, .fz)] [])))
def L_law08_WordsBack_1_0 (R : Orc) (k : Nat) (w : Bool) (n : Nat) (a b : ByteArray) (c : FV) (d : Int) := loopL R k w [] [0, 1, 5, 9] [0, 4] A_law08_WordsBack_b1 n ⟨[(0, .fz (.str a)), (1, .fz (.str b)), (5, .fz c), (9, .fz (.int .i64 d))], [(4095, .dead)]⟩
def J_law08_WordsBack_1_0 (R : Orc) (k : Nat) (w : Bool) (n : Nat) (a b : ByteArray) (c : FV) (d : Int) := execL R k w [] A_law08_WordsBack_j1 (AExit × St) ⟨[(0, .fz (.str a)), (1, .fz (.str b)), (5, .fz c), (9, .fz (.int .i64 d))], [(4095, .dead)]⟩ (kLoop R k w [] [0, 1, 5, 9] [0, 4] A_law08_WordsBack_b1 n)
def X_law08_WordsBack_1_0 (a : ByteArray) : St := ⟨[(0, .fz (.str a))], [(4095, .dead)]⟩
def X_law08_WordsBack_1_1 (a : ByteArray) (b : Bool) : St := ⟨[(0, .fz (.str a)), (4, .fz (.bool b))], [(4095, .dead)]⟩
theorem E_law08_WordsBack (R : Orc) (k : Nat) (w : Bool) (a b : ByteArray) : callL R k w A_law08_WordsBack [.fz (.str a), .fz (.str b)] = ifB (decide ((ByteArray.size a : Int) > 3000))
 (onR (R N_law08_lives []) fun r0 => when (List.isEmpty r0.2 && allF [.fz] r0.1) (when (isBool (toF (List.getD r0.1 0 em))) (some ([.fz (.bool (toBool (toF (List.getD r0.1 0 em))))], []))))
 (ifB (decide ((ByteArray.size b : Int) > 100))
 (onR (R N_law08_lives []) fun r1 => when (List.isEmpty r1.2 && allF [.fz] r1.1) (when (isBool (toF (List.getD r1.1 0 em))) (some ([.fz (.bool (toBool (toF (List.getD r1.1 0 em))))], []))))
 (jump w (J_law08_WordsBack_4_0 R k w a b))) := by kernel_rfl
theorem J_law08_WordsBack_4_0_eq (R : Orc) (k : Nat) (w : Bool) (a b : ByteArray) : J_law08_WordsBack_4_0 R k w a b = onR (R N_words_Split [.fz (.str a), .fz (.str b)]) fun r2 => when (List.isEmpty r2.2 && allF [.fz, .fz] r2.1) (when (isBool (toF (List.getD r2.1 1 em))) (onR (R N_words_Join [.fz (toF (List.getD r2.1 0 em)), .fz (.str b)]) fun r3 => when (List.isEmpty r3.2 && allF [.fz, .fz] r3.1) (when (isStr (toF (List.getD r3.1 0 em))) (when (isBool (toF (List.getD r3.1 1 em))) (ifB (!(ByteArray.toList b == ByteArray.toList (⟨#[]⟩ : ByteArray)))
 (ifB (!(toBool (toF (List.getD r2.1 1 em))))
 (some ([.fz (.bool false)], []))
 (ifB (!(toBool (toF (List.getD r3.1 1 em))))
 (some ([.fz (.bool false)], []))
 (ifB (!(ByteArray.toList (toStr (toF (List.getD r3.1 0 em))) == ByteArray.toList a))
 (some ([.fz (.bool false)], []))
 (jump w (J_law08_WordsBack_3_0 R k w a b (toF (List.getD r2.1 0 em)))))))
 (jump w (J_law08_WordsBack_3_0 R k w a b (toF (List.getD r2.1 0 em))))))))) := by kernel_rfl
theorem J_law08_WordsBack_3_0_eq (R : Orc) (k : Nat) (w : Bool) (a b : ByteArray) (c : FV) : J_law08_WordsBack_3_0 R k w a b c = onL (L_law08_WordsBack_1_0 R k w k a b c 0) (K_law08_WordsBack_1 R k w) := by kernel_rfl
theorem L_law08_WordsBack_1_0_eq (R : Orc) (k : Nat) (w : Bool) (n : Nat) (a b : ByteArray) (c : FV) (d : Int) : L_law08_WordsBack_1_0 R k w (n + 1) a b c d = ifB (!(ByteArray.toList b == ByteArray.toList (⟨#[]⟩ : ByteArray)))
 (when (isSl c) (ifB (decide (d < (List.length (toSl c) : Int)))
 (jump w (J_law08_WordsBack_1_0 R k w n a b c d))
 (some ((.exit 0), X_law08_WordsBack_1_0 a))))
 (some ((.exit 0), X_law08_WordsBack_1_0 a)) := by kernel_rfl
theorem J_law08_WordsBack_1_0_eq (R : Orc) (k : Nat) (w : Bool) (n : Nat) (a b : ByteArray) (c : FV) (d : Int) : J_law08_WordsBack_1_0 R k w n a b c d = when (isSl c) (when ((decide (0 ≤ d)) && (decide (d < (List.length (toSl c) : Int)))) (when (fits 1 false (List.getD (toSl c) (Int.toNat d) nilp)) (when (isStr (List.getD (toSl c) (Int.toNat d) nilp)) (onR (R N_words_Has [.fz (.str (toStr (List.getD (toSl c) (Int.toNat d) nilp))), .fz (.str b)]) fun r4 => when (List.isEmpty r4.2 && allF [.fz] r4.1) (when (isBool (toF (List.getD r4.1 0 em))) (ifB (toBool (toF (List.getD r4.1 0 em)))
 (some (.ret, X_law08_WordsBack_1_1 a false))
 (L_law08_WordsBack_1_0 R k w n a b c (IntKind.wrap .i64 (d + 1))))))))) := by kernel_rfl
theorem X_law08_WordsBack_1_0_eq (R : Orc) (k : Nat) (w : Bool) (a : ByteArray) : K_law08_WordsBack_1 R k w (.exit 0) (X_law08_WordsBack_1_0 a) = onR (R N_words_Lower [.fz (.str a)]) fun r5 => when (List.isEmpty r5.2 && allF [.fz] r5.1) (when (isStr (toF (List.getD r5.1 0 em))) (onR (R N_words_Upper [.fz (.str (toStr (toF (List.getD r5.1 0 em))))]) fun r6 => when (List.isEmpty r6.2 && allF [.fz] r6.1) (when (isStr (toF (List.getD r6.1 0 em))) (onR (R N_words_Upper [.fz (.str a)]) fun r7 => when (List.isEmpty r7.2 && allF [.fz] r7.1) (when (isStr (toF (List.getD r7.1 0 em))) (ifB (ByteArray.toList (toStr (toF (List.getD r6.1 0 em))) == ByteArray.toList (toStr (toF (List.getD r7.1 0 em))))
 (onR (R N_words_Trim [.fz (.str a)]) fun r8 => when (List.isEmpty r8.2 && allF [.fz] r8.1) (when (isStr (toF (List.getD r8.1 0 em))) (onR (R N_words_Trim [.fz (.str (toStr (toF (List.getD r8.1 0 em))))]) fun r9 => when (List.isEmpty r9.2 && allF [.fz] r9.1) (when (isStr (toF (List.getD r9.1 0 em))) (onR (R N_words_Trim [.fz (.str a)]) fun r10 => when (List.isEmpty r10.2 && allF [.fz] r10.1) (when (isStr (toF (List.getD r10.1 0 em))) (ifB (ByteArray.toList (toStr (toF (List.getD r9.1 0 em))) == ByteArray.toList (toStr (toF (List.getD r10.1 0 em))))
 (onR (R N_law08_lives []) fun r11 => when (List.isEmpty r11.2 && allF [.fz] r11.1) (when (isBool (toF (List.getD r11.1 0 em))) (some ([.fz (.bool (toBool (toF (List.getD r11.1 0 em))))], []))))
 (some ([.fz (.bool false)], [])))))))))
 (some ([.fz (.bool false)], [])))))))) := by kernel_rfl
/-! keyhole/keyholelaw08.lives -/
def C_law08_lives : ACode := codeOf 5 Tryd.f5
def A_law08_lives : AFunc := ⟨0, [(.tmp 0, .fz)], C_law08_lives, none⟩
theorem E_law08_lives (R : Orc) (k : Nat) (w : Bool) : callL R k w A_law08_lives [] = onR (R N_words_Split [.fz (.str (⟨#[97, 44, 98, 44, 44]⟩ : ByteArray)), .fz (.str (⟨#[44]⟩ : ByteArray))]) fun r0 => when (List.isEmpty r0.2 && allF [.fz, .fz] r0.1) (when (isBool (toF (List.getD r0.1 1 em))) (ifB (toBool (toF (List.getD r0.1 1 em)))
 (when (isSl (toF (List.getD r0.1 0 em))) (ifB ((List.length (toSl (toF (List.getD r0.1 0 em))) : Int) == 4)
 (when (isSl (toF (List.getD r0.1 0 em))) (when (decide (0 < (List.length (toSl (toF (List.getD r0.1 0 em))) : Int))) (when (fits 1 false (List.getD (toSl (toF (List.getD r0.1 0 em))) 0 nilp)) (when (isStr (List.getD (toSl (toF (List.getD r0.1 0 em))) 0 nilp)) (ifB (ByteArray.toList (toStr (List.getD (toSl (toF (List.getD r0.1 0 em))) 0 nilp)) == ByteArray.toList (⟨#[97]⟩ : ByteArray))
 (when (isSl (toF (List.getD r0.1 0 em))) (when (decide (1 < (List.length (toSl (toF (List.getD r0.1 0 em))) : Int))) (when (fits 1 false (List.getD (toSl (toF (List.getD r0.1 0 em))) 1 nilp)) (when (isStr (List.getD (toSl (toF (List.getD r0.1 0 em))) 1 nilp)) (ifB (ByteArray.toList (toStr (List.getD (toSl (toF (List.getD r0.1 0 em))) 1 nilp)) == ByteArray.toList (⟨#[98]⟩ : ByteArray))
 (when (isSl (toF (List.getD r0.1 0 em))) (when (decide (3 < (List.length (toSl (toF (List.getD r0.1 0 em))) : Int))) (when (fits 1 false (List.getD (toSl (toF (List.getD r0.1 0 em))) 3 nilp)) (when (isStr (List.getD (toSl (toF (List.getD r0.1 0 em))) 3 nilp)) (some ([.fz (.bool (ByteArray.toList (toStr (List.getD (toSl (toF (List.getD r0.1 0 em))) 3 nilp)) == ByteArray.toList (⟨#[]⟩ : ByteArray)))], []))))))
 (some ([.fz (.bool false)], [])))))))
 (some ([.fz (.bool false)], [])))))))
 (some ([.fz (.bool false)], []))))
 (some ([.fz (.bool false)], [])))) := by kernel_rfl
/-! keyhole/keyholelaw08.at -/
def C_law08_at : ACode := codeOf 6 Tryd.f6
def A_law08_at : AFunc := ⟨3, [(.tmp 6, .fz)], C_law08_at, none⟩
/-! keyhole/words.Upper -/
def C_words_Upper : ACode := codeOf 7 Tryd.f7
def A_words_Upper : AFunc := ⟨1, [(.tmp 2, .fz)], C_words_Upper, none⟩
theorem E_words_Upper (R : Orc) (k : Nat) (w : Bool) (a : ByteArray) : callL R k w A_words_Upper [.fz (.str a)] = onR (R N_words_turned [.fz (.str a), .fz (FV.fn N_words_Upper_1 [])]) fun r0 => when (List.isEmpty r0.2 && allF [.fz] r0.1) (when (isStr (toF (List.getD r0.1 0 em))) (some ([.fz (.str (toStr (toF (List.getD r0.1 0 em))))], []))) := by kernel_rfl
/-! keyhole/words.Lower -/
def C_words_Lower : ACode := codeOf 8 Tryd.f8
def A_words_Lower : AFunc := ⟨1, [(.tmp 2, .fz)], C_words_Lower, none⟩
theorem E_words_Lower (R : Orc) (k : Nat) (w : Bool) (a : ByteArray) : callL R k w A_words_Lower [.fz (.str a)] = onR (R N_words_turned [.fz (.str a), .fz (FV.fn N_words_Lower_1 [])]) fun r0 => when (List.isEmpty r0.2 && allF [.fz] r0.1) (when (isStr (toF (List.getD r0.1 0 em))) (some ([.fz (.str (toStr (toF (List.getD r0.1 0 em))))], []))) := by kernel_rfl
/-! keyhole/words.Has -/
def C_words_Has : ACode := codeOf 9 Tryd.f9
def A_words_Has : AFunc := ⟨2, [(.tmp 4, .fz)], C_words_Has, none⟩
theorem E_words_Has (R : Orc) (k : Nat) (w : Bool) (a b : ByteArray) : callL R k w A_words_Has [.fz (.str a), .fz (.str b)] = onR (R N_strings_Index [.fz (.str a), .fz (.str b)]) fun r0 => when (List.isEmpty r0.2 && allF [.fz] r0.1) (when (isInt .i64 (toF (List.getD r0.1 0 em))) (some ([.fz (.bool (decide ((toInt (toF (List.getD r0.1 0 em))) ≥ 0)))], []))) := by kernel_rfl
/-! keyhole/words.Starts -/
def C_words_Starts : ACode := codeOf 10 Tryd.f10
def A_words_Starts : AFunc := ⟨2, [(.tmp 4, .fz)], C_words_Starts, none⟩
/-! keyhole/words.Ends -/
def C_words_Ends : ACode := codeOf 11 Tryd.f11
def A_words_Ends : AFunc := ⟨2, [(.tmp 4, .fz)], C_words_Ends, none⟩
/-! keyhole/words.Trim -/
def C_words_Trim : ACode := codeOf 12 Tryd.f12
def A_words_Trim : AFunc := ⟨1, [(.tmp 2, .fz)], C_words_Trim, none⟩
theorem E_words_Trim (R : Orc) (k : Nat) (w : Bool) (a : ByteArray) : callL R k w A_words_Trim [.fz (.str a)] = onR (R N_strings_Trim [.fz (.str a), .fz (.str (⟨#[32, 9, 10, 13]⟩ : ByteArray))]) fun r0 => when (List.isEmpty r0.2 && allF [.fz] r0.1) (when (isStr (toF (List.getD r0.1 0 em))) (some ([.fz (.str (toStr (toF (List.getD r0.1 0 em))))], []))) := by kernel_rfl
/-! keyhole/words.Split -/
def C_words_Split : ACode := codeOf 13 Tryd.f13
def A_words_Split_b1 : ACode := C_words_Split.at [1, 1, 1, 0, 0, 0]
def A_words_Split_s1 : ACode := C_words_Split.at [1, 1, 1, 1]
def A_words_Split : AFunc := ⟨2, [(.tmp 4, .fz), (.tmp 5, .fz)], C_words_Split, none⟩
def K_words_Split_1 (R : Orc) (k : Nat) (w : Bool) : AExit → St → Option Ans := (kBlk 0 (kSeq R k w [] A_words_Split_s1 (kFin R [(.tmp 4, .fz), (.tmp 5, .fz)] [])))
def L_words_Split_1_0 (R : Orc) (k : Nat) (w : Bool) (n : Nat) (a b : ByteArray) := loopL R k w [] [0, 1, 6] [4, 5] A_words_Split_b1 n ⟨[(0, .fz (.str a)), (1, .fz (.str b)), (6, .nils)], [(4095, .dead)]⟩
def X_words_Split_1_0 (a : Bool) (b : List FV) : St := ⟨[(4, .rw 4096), (5, .fz (.bool a))], [(4095, .dead), (4096, .row 1 false b)]⟩
def L_words_Split_1_1 (R : Orc) (k : Nat) (w : Bool) (n : Nat) (a b : ByteArray) (c : List FV) := loopL R k w [] [0, 1, 6] [4, 5] A_words_Split_b1 n ⟨[(0, .fz (.str a)), (1, .fz (.str b)), (6, .rw 4096)], [(4095, .dead), (4096, .row 1 false c)]⟩
def X_words_Split_1_1 : St := ⟨[], [(4095, .dead)]⟩
theorem E_words_Split (R : Orc) (k : Nat) (w : Bool) (a b : ByteArray) : callL R k w A_words_Split [.fz (.str a), .fz (.str b)] = ifB (ByteArray.toList b == ByteArray.toList (⟨#[]⟩ : ByteArray))
 (onR (R N_words_signs [.fz (.str a)]) fun r0 => when (List.isEmpty r0.2 && allF [.fz, .fz] r0.1) (when (isBool (toF (List.getD r0.1 1 em))) (some ([.fz (toF (List.getD r0.1 0 em)), .fz (.bool (toBool (toF (List.getD r0.1 1 em))))], []))))
 (onL (L_words_Split_1_0 R k w k a b) (K_words_Split_1 R k w)) := by kernel_rfl
theorem L_words_Split_1_0_eq (R : Orc) (k : Nat) (w : Bool) (n : Nat) (a b : ByteArray) : L_words_Split_1_0 R k w (n + 1) a b = onR (R N_strings_Cut [.fz (.str a), .fz (.str b)]) fun r1 => when (List.isEmpty r1.2 && allF [.fz, .fz, .fz] r1.1) (when (isStr (toF (List.getD r1.1 0 em))) (when (isStr (toF (List.getD r1.1 1 em))) (when (isBool (toF (List.getD r1.1 2 em))) (when (decide (((0 : Nat) + List.length [(FV.str (toStr (toF (List.getD r1.1 0 em))))]) * 16 ≤ roomy) && decide ((0 : Nat) + List.length [(FV.str (toStr (toF (List.getD r1.1 0 em))))] ≤ roomy)) (ifB (!(toBool (toF (List.getD r1.1 2 em))))
 (some (.ret, X_words_Split_1_0 true [(.str (toStr (toF (List.getD r1.1 0 em))))]))
 (L_words_Split_1_1 R k w n (toStr (toF (List.getD r1.1 1 em))) b [(.str (toStr (toF (List.getD r1.1 0 em))))])))))) := by kernel_rfl
theorem X_words_Split_1_0_eq (R : Orc) (k : Nat) (w a : Bool) (b : List FV) : K_words_Split_1 R k w .ret (X_words_Split_1_0 a b) = some ([.fz (.sl b), .fz (.bool a)], []) := by kernel_rfl
theorem L_words_Split_1_1_eq (R : Orc) (k : Nat) (w : Bool) (n : Nat) (a b : ByteArray) (c : List FV) : L_words_Split_1_1 R k w (n + 1) a b c = ifB (decide ((List.length c : Int) < 4096))
 (onR (R N_strings_Cut [.fz (.str a), .fz (.str b)]) fun r2 => when (List.isEmpty r2.2 && allF [.fz, .fz, .fz] r2.1) (when (isStr (toF (List.getD r2.1 0 em))) (when (isStr (toF (List.getD r2.1 1 em))) (when (isBool (toF (List.getD r2.1 2 em))) (when (decide ((List.length c + List.length [(FV.str (toStr (toF (List.getD r2.1 0 em))))]) * 16 ≤ roomy) && decide (List.length c + List.length [(FV.str (toStr (toF (List.getD r2.1 0 em))))] ≤ roomy)) (ifB (!(toBool (toF (List.getD r2.1 2 em))))
 (some (.ret, X_words_Split_1_0 true (c ++ [(FV.str (toStr (toF (List.getD r2.1 0 em))))])))
 (L_words_Split_1_1 R k w n (toStr (toF (List.getD r2.1 1 em))) b (c ++ [(FV.str (toStr (toF (List.getD r2.1 0 em))))]))))))))
 (some ((.exit 0), X_words_Split_1_1)) := by kernel_rfl
theorem X_words_Split_1_1_eq (R : Orc) (k : Nat) (w : Bool) : K_words_Split_1 R k w (.exit 0) (X_words_Split_1_1) = some ([.fz (.sl []), .fz (.bool false)], []) := by kernel_rfl
/-! keyhole/words.Join -/
def C_words_Join : ACode := codeOf 14 Tryd.f14
def A_words_Join_j1 : ACode := C_words_Join.at [1, 1, 0, 1, 0, 0, 1, 1, 0, 0, 1, 1, 0]
def A_words_Join_s2 : ACode := C_words_Join.at [1, 1, 0, 1, 0, 0, 1, 1, 1]
def A_words_Join_b1 : ACode := C_words_Join.at [1, 1, 0, 1, 0, 0]
def A_words_Join_s3 : ACode := C_words_Join.at [1, 1, 1]
def A_words_Join : AFunc := ⟨2, [(.tmp 4, .fz), (.tmp 5, .fz)], C_words_Join, none⟩
def K_words_Join_1 (R : Orc) (k : Nat) (w : Bool) : AExit → St → Option Ans := (kBlk 0 (kSeq R k w [] A_words_Join_s3 (kFin R [(.tmp 4, .fz), (.tmp 5, .fz)] [])))
def L_words_Join_1_0 (R : Orc) (k : Nat) (w : Bool) (n : Nat) (a : List FV) (b : ByteArray) (c : Int) (d : List FV) (e f : Int) := loopL R k w [] [0, 1, 6, 9, 10, 11] [0, 1, 4, 5] A_words_Join_b1 n ⟨[(0, .fz (.sl a)), (1, .fz (.str b)), (6, .fz (.int .i64 c)), (9, .fz (.sl d)), (10, .fz (.int .i64 e)), (11, .fz (.int .i64 f))], [(4095, .dead)]⟩
def J_words_Join_1_0 (R : Orc) (k : Nat) (w : Bool) (n : Nat) (a : List FV) (b : ByteArray) (c : Int) (d : ByteArray) (e : List FV) (f g : Int) := execL R k w [] A_words_Join_j1 (AExit × St) ⟨[(0, .fz (.sl a)), (1, .fz (.str b)), (6, .fz (.int .i64 c)), (8, .fz (.str d)), (9, .fz (.sl e)), (10, .fz (.int .i64 f)), (11, .fz (.int .i64 g))], [(4095, .dead)]⟩ (kBlk 1 (kSeq R k w [] A_words_Join_s2 (kLoop R k w [] [0, 1, 6, 9, 10, 11] [0, 1, 4, 5] A_words_Join_b1 n)))
def X_words_Join_1_0 (a : List FV) (b : ByteArray) : St := ⟨[(0, .fz (.sl a)), (1, .fz (.str b))], [(4095, .dead)]⟩
def X_words_Join_1_1 (a : List FV) (b c : ByteArray) (d : Bool) : St := ⟨[(0, .fz (.sl a)), (1, .fz (.str b)), (4, .fz (.str c)), (5, .fz (.bool d))], [(4095, .dead)]⟩
theorem E_words_Join (R : Orc) (k : Nat) (w : Bool) (a : List FV) (b : ByteArray) : callL R k w A_words_Join [.fz (.sl a), .fz (.str b)] = onL (L_words_Join_1_0 R k w k a b 4096 a (List.length a : Int) 0) (K_words_Join_1 R k w) := by kernel_rfl
theorem L_words_Join_1_0_eq (R : Orc) (k : Nat) (w : Bool) (n : Nat) (a : List FV) (b : ByteArray) (c : Int) (d : List FV) (e f : Int) : L_words_Join_1_0 R k w (n + 1) a b c d e f = ifB (decide (f < e))
 (when ((decide (0 ≤ f)) && (decide (f < (List.length d : Int)))) (when (fits 1 false (List.getD d (Int.toNat f) nilp)) (when (isStr (List.getD d (Int.toNat f) nilp)) (ifB (decide (f > 0))
 (jump w (J_words_Join_1_0 R k w n a b (IntKind.wrap .i64 (c - (ByteArray.size b : Int))) (toStr (List.getD d (Int.toNat f) nilp)) d e f))
 (jump w (J_words_Join_1_0 R k w n a b c (toStr (List.getD d (Int.toNat f) nilp)) d e f))))))
 (some ((.exit 0), X_words_Join_1_0 a b)) := by kernel_rfl
theorem J_words_Join_1_0_eq (R : Orc) (k : Nat) (w : Bool) (n : Nat) (a : List FV) (b : ByteArray) (c : Int) (d : ByteArray) (e : List FV) (f g : Int) : J_words_Join_1_0 R k w n a b c d e f g = ifB (decide ((IntKind.wrap .i64 (c - (ByteArray.size d : Int))) < 0))
 (some (.ret, X_words_Join_1_1 a b (⟨#[]⟩ : ByteArray) false))
 (L_words_Join_1_0 R k w n a b (IntKind.wrap .i64 (c - (ByteArray.size d : Int))) e f (IntKind.wrap .i64 (g + 1))) := by kernel_rfl
theorem X_words_Join_1_0_eq (R : Orc) (k : Nat) (w : Bool) (a : List FV) (b : ByteArray) : K_words_Join_1 R k w (.exit 0) (X_words_Join_1_0 a b) = onR (R N_strings_Join [.fz (.sl a), .fz (.str b)]) fun r0 => when (List.isEmpty r0.2 && allF [.fz] r0.1) (when (isStr (toF (List.getD r0.1 0 em))) (some ([.fz (.str (toStr (toF (List.getD r0.1 0 em)))), .fz (.bool true)], []))) := by kernel_rfl
theorem X_words_Join_1_1_eq (R : Orc) (k : Nat) (w : Bool) (a : List FV) (b c : ByteArray) (d : Bool) : K_words_Join_1 R k w .ret (X_words_Join_1_1 a b c d) = some ([.fz (.str c), .fz (.bool d)], []) := by kernel_rfl
/-! keyhole/words.turned -/
def C_words_turned : ACode := codeOf 15 Tryd.f15
def A_words_turned_b1 : ACode := C_words_turned.at [1, 1, 0, 1, 0, 0]
def A_words_turned_s1 : ACode := C_words_turned.at [1, 1, 1]
def A_words_turned : AFunc := ⟨2, [(.tmp 4, .fz)], C_words_turned, none⟩
def K_words_turned_1 (R : Orc) (k : Nat) (w : Bool) : AExit → St → Option Ans := (kBlk 0 (kSeq R k w [] A_words_turned_s1 (kFin R [(.tmp 4, .fz)] [])))
def L_words_turned_1_0 (R : Orc) (k : Nat) (w : Bool) (n : Nat) (a : FV) (b c : Int) (d : List FV) := loopL R k w [] [1, 5, 10, 11, 12] [5] A_words_turned_b1 n ⟨[(1, .fz a), (5, .rw 4096), (10, .rw 4096), (11, .fz (.int .i64 b)), (12, .fz (.int .i64 c))], [(4095, .dead), (4096, .row 1 false d)]⟩
def X_words_turned_1_0 (a : List FV) : St := ⟨[(5, .rw 4096)], [(4095, .dead), (4096, .row 1 false a)]⟩
theorem E_words_turned (R : Orc) (k : Nat) (w : Bool) (a : ByteArray) (c : FV) : callL R k w A_words_turned [.fz (.str a), .fz c] = onL (L_words_turned_1_0 R k w k c (List.length (List.map (fun b => FV.int .u8 b.toNat) a.data.toList) : Int) 0 (List.map (fun b => FV.int .u8 b.toNat) a.data.toList)) (K_words_turned_1 R k w) := by kernel_rfl
theorem L_words_turned_1_0_eq (R : Orc) (k : Nat) (w : Bool) (n : Nat) (a : FV) (b c : Int) (d : List FV) : L_words_turned_1_0 R k w (n + 1) a b c d = ifB (decide (c < b))
 (when ((decide (0 ≤ c)) && (decide (c < (List.length d : Int)))) (when (Nat.blt (Int.toNat c) (List.length d)) (when (isInt .u8 (List.getD d (Int.toNat c) nilp)) (when (FV.isFn a) (onR (R (FV.fnN a) (List.map TV.fz ([(.int .u8 (toInt (List.getD d (Int.toNat c) nilp)))] ++ FV.fnC a))) fun r0 => when (List.isEmpty r0.2 && allF [.fz] r0.1) (when (isInt .u8 (toF (List.getD r0.1 0 em))) (when ((decide (0 ≤ c)) && (decide (c < (List.length d : Int)))) (when (Nat.blt (Int.toNat c) (List.length d)) (L_words_turned_1_0 R k w n a b (IntKind.wrap .i64 (c + 1)) (List.set d (Int.toNat c) (.int .u8 (toInt (toF (List.getD r0.1 0 em))))))))))))))
 (some ((.exit 0), X_words_turned_1_0 d)) := by kernel_rfl
theorem X_words_turned_1_0_eq (R : Orc) (k : Nat) (w : Bool) (a : List FV) : K_words_turned_1 R k w (.exit 0) (X_words_turned_1_0 a) = when (List.all a (isInt .u8)) (some ([.fz (.str (⟨(List.map (fun e => UInt8.ofNat (toInt e).toNat) a).toArray⟩ : ByteArray))], [])) := by kernel_rfl
/-! keyhole/words.Upper$1 -/
def C_words_Upper_1 : ACode := codeOf 16 Tryd.f16
def A_words_Upper_1 : AFunc := ⟨1, [(.tmp 2, .fz)], C_words_Upper_1, none⟩
theorem E_words_Upper_1 (R : Orc) (k : Nat) (w : Bool) (a : Int) : callL R k w A_words_Upper_1 [.fz (.int .u8 a)] = onR (R N_words_between [.fz (.int .u8 a), .fz (.int .u8 97), .fz (.int .u8 122)]) fun r0 => when (List.isEmpty r0.2 && allF [.fz] r0.1) (when (isBool (toF (List.getD r0.1 0 em))) (ifB (toBool (toF (List.getD r0.1 0 em)))
 (some ([.fz (.int .u8 (IntKind.wrap .u8 ((IntKind.wrap .u8 (a - 97)) + 65)))], []))
 (some ([.fz (.int .u8 a)], [])))) := by kernel_rfl
/-! keyhole/words.between -/
def C_words_between : ACode := codeOf 17 Tryd.f17
def A_words_between : AFunc := ⟨3, [(.tmp 6, .fz)], C_words_between, none⟩
theorem E_words_between (R : Orc) (k : Nat) (w : Bool) (a b c : Int) : callL R k w A_words_between [.fz (.int .u8 a), .fz (.int .u8 b), .fz (.int .u8 c)] = ifB (decide (a ≥ b))
 (some ([.fz (.bool (decide (a ≤ c)))], []))
 (some ([.fz (.bool false)], [])) := by kernel_rfl
/-! keyhole/words.Lower$1 -/
def C_words_Lower_1 : ACode := codeOf 18 Tryd.f18
def A_words_Lower_1 : AFunc := ⟨1, [(.tmp 2, .fz)], C_words_Lower_1, none⟩
theorem E_words_Lower_1 (R : Orc) (k : Nat) (w : Bool) (a : Int) : callL R k w A_words_Lower_1 [.fz (.int .u8 a)] = onR (R N_words_between [.fz (.int .u8 a), .fz (.int .u8 65), .fz (.int .u8 90)]) fun r0 => when (List.isEmpty r0.2 && allF [.fz] r0.1) (when (isBool (toF (List.getD r0.1 0 em))) (ifB (toBool (toF (List.getD r0.1 0 em)))
 (some ([.fz (.int .u8 (IntKind.wrap .u8 ((IntKind.wrap .u8 (a - 65)) + 97)))], []))
 (some ([.fz (.int .u8 a)], [])))) := by kernel_rfl
/-! strings.HasPrefix -/
def C_strings_HasPrefix : ACode := codeOf 20 Tryd.f20
def A_strings_HasPrefix : AFunc := ⟨2, [(.tmp 4, .fz)], C_strings_HasPrefix, none⟩
/-! strings.HasSuffix -/
def C_strings_HasSuffix : ACode := codeOf 21 Tryd.f21
def A_strings_HasSuffix : AFunc := ⟨2, [(.tmp 4, .fz)], C_strings_HasSuffix, none⟩
/-! strings.Trim -/
def C_strings_Trim : ACode := codeOf 22 Tryd.f22
def A_strings_Trim_j1 : ACode := C_strings_Trim.at [1, 1, 0, 0, 1, 0]
def A_strings_Trim_j2 : ACode := C_strings_Trim.at [1, 1, 0, 1, 0]
def A_strings_Trim_s3 : ACode := C_strings_Trim.at [1, 1, 0, 1]
def A_strings_Trim_j4 : ACode := C_strings_Trim.at [1, 1, 0]
def A_strings_Trim : AFunc := ⟨2, [(.tmp 4, .fz)], C_strings_Trim, none⟩
def J_strings_Trim_4_0 (R : Orc) (k : Nat) (w : Bool) (a b : ByteArray) := execL R k w [] A_strings_Trim_j4 Ans ⟨[(0, .fz (.str a)), (1, .fz (.str b))], [(4095, .dead)]⟩ (kFin R [(.tmp 4, .fz)] [])
def J_strings_Trim_1_0 (R : Orc) (k : Nat) (w : Bool) (a b : ByteArray) (c : Bool) := execL R k w [] A_strings_Trim_j1 Ans ⟨[(0, .fz (.str a)), (1, .fz (.str b)), (21, .fz (.bool c))], [(4095, .dead)]⟩ (kSeq R k w [] A_strings_Trim_s3 (kFin R [(.tmp 4, .fz)] []))
def J_strings_Trim_2_0 (R : Orc) (k : Nat) (w : Bool) (a b : ByteArray) := execL R k w [] A_strings_Trim_j2 Ans ⟨[(0, .fz (.str a)), (1, .fz (.str b))], [(4095, .dead)]⟩ (kFin R [(.tmp 4, .fz)] [])
theorem E_strings_Trim (R : Orc) (k : Nat) (w : Bool) (a b : ByteArray) : callL R k w A_strings_Trim [.fz (.str a), .fz (.str b)] = ifB (ByteArray.toList a == ByteArray.toList (⟨#[]⟩ : ByteArray))
 (some ([.fz (.str a)], []))
 (ifB (ByteArray.toList b == ByteArray.toList (⟨#[]⟩ : ByteArray))
 (some ([.fz (.str a)], []))
 (jump w (J_strings_Trim_4_0 R k w a b))) := by kernel_rfl
theorem J_strings_Trim_4_0_eq (R : Orc) (k : Nat) (w : Bool) (a b : ByteArray) : J_strings_Trim_4_0 R k w a b = ifB ((ByteArray.size b : Int) == 1)
 (when (decide (0 < (ByteArray.size b : Int))) (jump w (J_strings_Trim_1_0 R k w a b (decide ((((Array.getD (ByteArray.data b) 0 0).toNat : Nat) : Int) < 128)))))
 (jump w (J_strings_Trim_1_0 R k w a b false)) := by kernel_rfl
theorem J_strings_Trim_1_0_eq (R : Orc) (k : Nat) (w : Bool) (a b : ByteArray) (c : Bool) : J_strings_Trim_1_0 R k w a b c = ifB c
 (when (decide (0 < (ByteArray.size b : Int))) (onR (R N_strings_trimRightByte [.fz (.str a), .fz (.int .u8 (((Array.getD (ByteArray.data b) 0 0).toNat : Nat) : Int))]) fun r0 => when (List.isEmpty r0.2 && allF [.fz] r0.1) (when (isStr (toF (List.getD r0.1 0 em))) (when (decide (0 < (ByteArray.size b : Int))) (onR (R N_strings_trimLeftByte [.fz (.str (toStr (toF (List.getD r0.1 0 em)))), .fz (.int .u8 (((Array.getD (ByteArray.data b) 0 0).toNat : Nat) : Int))]) fun r1 => when (List.isEmpty r1.2 && allF [.fz] r1.1) (when (isStr (toF (List.getD r1.1 0 em))) (some ([.fz (.str (toStr (toF (List.getD r1.1 0 em))))], []))))))))
 (jump w (J_strings_Trim_2_0 R k w a b)) := by kernel_rfl
theorem J_strings_Trim_2_0_eq (R : Orc) (k : Nat) (w : Bool) (a b : ByteArray) : J_strings_Trim_2_0 R k w a b = onR (R N_strings_makeASCIISet [.fz (.str b)]) fun r2 => when (List.isEmpty r2.2 && allF [.fz, .fz] r2.1) (when (isBool (toF (List.getD r2.1 1 em))) (when (fits 256 true (toF (List.getD r2.1 0 em))) (ifB (toBool (toF (List.getD r2.1 1 em)))
 (onR (R N_strings_trimRightASCII [.fz (.str a), .fz (.pt 256 true (toF (List.getD r2.1 0 em)) 0)]) fun r3 => when (List.isEmpty r3.2 && allF [.fz] r3.1) (when (isStr (toF (List.getD r3.1 0 em))) (onR (R N_strings_trimLeftASCII [.fz (.str (toStr (toF (List.getD r3.1 0 em)))), .fz (.pt 256 true (toF (List.getD r2.1 0 em)) 0)]) fun r4 => when (List.isEmpty r4.2 && allF [.fz] r4.1) (when (isStr (toF (List.getD r4.1 0 em))) (some ([.fz (.str (toStr (toF (List.getD r4.1 0 em))))], []))))))
 (onR (R N_strings_trimRightUnicode [.fz (.str a), .fz (.str b)]) fun r5 => when (List.isEmpty r5.2 && allF [.fz] r5.1) (when (isStr (toF (List.getD r5.1 0 em))) (onR (R N_strings_trimLeftUnicode [.fz (.str (toStr (toF (List.getD r5.1 0 em)))), .fz (.str b)]) fun r6 => when (List.isEmpty r6.2 && allF [.fz] r6.1) (when (isStr (toF (List.getD r6.1 0 em))) (some ([.fz (.str (toStr (toF (List.getD r6.1 0 em))))], []))))))))) := by kernel_rfl
/-! keyhole/words.signs -/
def C_words_signs : ACode := codeOf 23 Tryd.f23
def A_words_signs_b1 : ACode := C_words_signs.at [1, 1, 1, 1, 0, 0, 0]
def A_words_signs_s1 : ACode := C_words_signs.at [1, 1, 1, 1, 1]
def A_words_signs : AFunc := ⟨1, [(.tmp 2, .fz), (.tmp 3, .fz)], C_words_signs, none⟩
def K_words_signs_1 (R : Orc) (k : Nat) (w : Bool) : AExit → St → Option Ans := (kBlk 0 (kSeq R k w [] A_words_signs_s1 (kFin R [(.tmp 2, .fz), (.tmp 3, .fz)] [])))
def L_words_signs_1_0 (R : Orc) (k : Nat) (w : Bool) (n : Nat) (a : ByteArray) (b : Int) := loopL R k w [] [0, 4, 5] [5] A_words_signs_b1 n ⟨[(0, .fz (.str a)), (4, .fz (.int .i64 b)), (5, .nils)], [(4095, .dead)]⟩
def L_words_signs_1_1 (R : Orc) (k : Nat) (w : Bool) (n : Nat) (a : ByteArray) (b : Int) (c : List FV) := loopL R k w [] [0, 4, 5] [5] A_words_signs_b1 n ⟨[(0, .fz (.str a)), (4, .fz (.int .i64 b)), (5, .rw 4096)], [(4095, .dead), (4096, .row 1 false c)]⟩
def X_words_signs_1_0 : St := ⟨[(5, .nils)], [(4095, .dead)]⟩
def X_words_signs_1_1 (a : List FV) : St := ⟨[(5, .rw 4096)], [(4095, .dead), (4096, .row 1 false a)]⟩
theorem E_words_signs (R : Orc) (k : Nat) (w : Bool) (a : ByteArray) : callL R k w A_words_signs [.fz (.str a)] = onR (R N_utf_Signs [.fz (.str a)]) fun r0 => when (List.isEmpty r0.2 && allF [.fz] r0.1) (when (isInt .i64 (toF (List.getD r0.1 0 em))) (ifB (decide ((toInt (toF (List.getD r0.1 0 em))) > 4096))
 (some ([.fz (.sl []), .fz (.bool false)], []))
 (onL (L_words_signs_1_0 R k w k a (toInt (toF (List.getD r0.1 0 em)))) (K_words_signs_1 R k w)))) := by kernel_rfl
theorem L_words_signs_1_0_eq (R : Orc) (k : Nat) (w : Bool) (n : Nat) (a : ByteArray) (b : Int) : L_words_signs_1_0 R k w (n + 1) a b = ifB (decide (b > 0))
 (onR (R N_utf_First [.fz (.str a), .fz (.int .i64 1)]) fun r1 => when (List.isEmpty r1.2 && allF [.fz] r1.1) (when (isStr (toF (List.getD r1.1 0 em))) (when (decide (((0 : Nat) + List.length [(FV.str (toStr (toF (List.getD r1.1 0 em))))]) * 16 ≤ roomy) && decide ((0 : Nat) + List.length [(FV.str (toStr (toF (List.getD r1.1 0 em))))] ≤ roomy)) (when (decide (0 ≤ (ByteArray.size a : Int)) && decide ((ByteArray.size a : Int) ≤ (ByteArray.size a : Int))) (when (decide (0 ≤ (ByteArray.size (toStr (toF (List.getD r1.1 0 em))) : Int)) && decide ((ByteArray.size (toStr (toF (List.getD r1.1 0 em))) : Int) ≤ (ByteArray.size a : Int))) (L_words_signs_1_1 R k w n (ByteArray.extract a (Int.toNat (ByteArray.size (toStr (toF (List.getD r1.1 0 em))) : Int)) (Int.toNat (ByteArray.size a : Int))) (IntKind.wrap .i64 (b - 1)) [(.str (toStr (toF (List.getD r1.1 0 em))))]))))))
 (some ((.exit 0), X_words_signs_1_0)) := by kernel_rfl
theorem L_words_signs_1_1_eq (R : Orc) (k : Nat) (w : Bool) (n : Nat) (a : ByteArray) (b : Int) (c : List FV) : L_words_signs_1_1 R k w (n + 1) a b c = ifB (decide (b > 0))
 (onR (R N_utf_First [.fz (.str a), .fz (.int .i64 1)]) fun r2 => when (List.isEmpty r2.2 && allF [.fz] r2.1) (when (isStr (toF (List.getD r2.1 0 em))) (when (decide ((List.length c + List.length [(FV.str (toStr (toF (List.getD r2.1 0 em))))]) * 16 ≤ roomy) && decide (List.length c + List.length [(FV.str (toStr (toF (List.getD r2.1 0 em))))] ≤ roomy)) (when (decide (0 ≤ (ByteArray.size a : Int)) && decide ((ByteArray.size a : Int) ≤ (ByteArray.size a : Int))) (when (decide (0 ≤ (ByteArray.size (toStr (toF (List.getD r2.1 0 em))) : Int)) && decide ((ByteArray.size (toStr (toF (List.getD r2.1 0 em))) : Int) ≤ (ByteArray.size a : Int))) (L_words_signs_1_1 R k w n (ByteArray.extract a (Int.toNat (ByteArray.size (toStr (toF (List.getD r2.1 0 em))) : Int)) (Int.toNat (ByteArray.size a : Int))) (IntKind.wrap .i64 (b - 1)) (c ++ [(FV.str (toStr (toF (List.getD r2.1 0 em))))])))))))
 (some ((.exit 0), X_words_signs_1_1 c)) := by kernel_rfl
theorem X_words_signs_1_0_eq (R : Orc) (k : Nat) (w : Bool) : K_words_signs_1 R k w (.exit 0) (X_words_signs_1_0) = some ([.fz (.sl []), .fz (.bool true)], []) := by kernel_rfl
theorem X_words_signs_1_1_eq (R : Orc) (k : Nat) (w : Bool) (a : List FV) : K_words_signs_1 R k w (.exit 0) (X_words_signs_1_1 a) = some ([.fz (.sl a), .fz (.bool true)], []) := by kernel_rfl
/-! strings.Cut -/
def C_strings_Cut : ACode := codeOf 24 Tryd.f24
def A_strings_Cut : AFunc := ⟨2, [(.tmp 4, .fz), (.tmp 5, .fz), (.tmp 6, .fz)], C_strings_Cut, none⟩
theorem E_strings_Cut (R : Orc) (k : Nat) (w : Bool) (a b : ByteArray) : callL R k w A_strings_Cut [.fz (.str a), .fz (.str b)] = onR (R N_internal_stringslite_Cut [.fz (.str a), .fz (.str b)]) fun r0 => when (List.isEmpty r0.2 && allF [.fz, .fz, .fz] r0.1) (when (isStr (toF (List.getD r0.1 0 em))) (when (isStr (toF (List.getD r0.1 1 em))) (when (isBool (toF (List.getD r0.1 2 em))) (some ([.fz (.str (toStr (toF (List.getD r0.1 0 em)))), .fz (.str (toStr (toF (List.getD r0.1 1 em)))), .fz (.bool (toBool (toF (List.getD r0.1 2 em))))], []))))) := by kernel_rfl
/-! internal/stringslite.HasPrefix -/
def C_internal_stringslite_HasPrefix : ACode := codeOf 27 Tryd.f27
def A_internal_stringslite_HasPrefix : AFunc := ⟨2, [(.tmp 4, .fz)], C_internal_stringslite_HasPrefix, none⟩
/-! internal/stringslite.HasSuffix -/
def C_internal_stringslite_HasSuffix : ACode := codeOf 28 Tryd.f28
def A_internal_stringslite_HasSuffix : AFunc := ⟨2, [(.tmp 4, .fz)], C_internal_stringslite_HasSuffix, none⟩
/-! strings.trimLeftByte -/
def C_strings_trimLeftByte : ACode := codeOf 29 Tryd.f29
def A_strings_trimLeftByte : AFunc := ⟨2, [(.tmp 4, .fz)], C_strings_trimLeftByte, none⟩
/-! strings.trimRightByte -/
def C_strings_trimRightByte : ACode := codeOf 30 Tryd.f30
def A_strings_trimRightByte : AFunc := ⟨2, [(.tmp 4, .fz)], C_strings_trimRightByte, none⟩
/-! strings.makeASCIISet -/
def C_strings_makeASCIISet : ACode := codeOf 31 Tryd.f31
def A_strings_makeASCIISet : AFunc := ⟨1, [(.cell 2 256 true, .fz), (.tmp 3, .fz)], C_strings_makeASCIISet, none⟩
/-! strings.trimLeftASCII -/
def C_strings_trimLeftASCII : ACode := codeOf 32 Tryd.f32
def A_strings_trimLeftASCII_b1 : ACode := C_strings_trimLeftASCII.at [1, 0, 0, 0]
def A_strings_trimLeftASCII_s1 : ACode := C_strings_trimLeftASCII.at [1, 1]
def A_strings_trimLeftASCII : AFunc := ⟨2, [(.tmp 4, .fz)], C_strings_trimLeftASCII, none⟩
def K_strings_trimLeftASCII_1 (R : Orc) (k : Nat) (w : Bool) : AExit → St → Option Ans := (kBlk 0 (kSeq R k w [] A_strings_trimLeftASCII_s1 (kFin R [(.tmp 4, .fz)] [])))
def L_strings_trimLeftASCII_1_0 (R : Orc) (k : Nat) (w : Bool) (n : Nat) (a : ByteArray) (b : FV) := loopL R k w [] [0, 1] [0] A_strings_trimLeftASCII_b1 n ⟨[(0, .fz (.str a)), (1, .fz (.pt 256 true b 0))], [(4095, .dead)]⟩
def X_strings_trimLeftASCII_1_0 (a : ByteArray) : St := ⟨[(0, .fz (.str a))], [(4095, .dead)]⟩
theorem E_strings_trimLeftASCII (R : Orc) (k : Nat) (w : Bool) (a : ByteArray) (b : FV) : callL R k w A_strings_trimLeftASCII [.fz (.str a), .fz (.pt 256 true b 0)] = onL (L_strings_trimLeftASCII_1_0 R k w k a b) (K_strings_trimLeftASCII_1 R k w) := by kernel_rfl
theorem L_strings_trimLeftASCII_1_0_eq (R : Orc) (k : Nat) (w : Bool) (n : Nat) (a : ByteArray) (b : FV) : L_strings_trimLeftASCII_1_0 R k w (n + 1) a b = ifB (decide ((ByteArray.size a : Int) > 0))
 (when (decide (0 < (ByteArray.size a : Int))) (onR (R N_strings_asciiSet_contains [.fz (.pt 256 true b 0), .fz (.int .u8 (((Array.getD (ByteArray.data a) 0 0).toNat : Nat) : Int))]) fun r0 => when (List.isEmpty r0.2 && allF [.fz] r0.1) (when (isBool (toF (List.getD r0.1 0 em))) (ifB (!(toBool (toF (List.getD r0.1 0 em))))
 (some ((.exit 0), X_strings_trimLeftASCII_1_0 a))
 (when (decide (0 ≤ (ByteArray.size a : Int)) && decide ((ByteArray.size a : Int) ≤ (ByteArray.size a : Int))) (when (decide (0 ≤ 1) && decide (1 ≤ (ByteArray.size a : Int))) (L_strings_trimLeftASCII_1_0 R k w n (ByteArray.extract a 1 (Int.toNat (ByteArray.size a : Int))) b)))))))
 (some ((.exit 0), X_strings_trimLeftASCII_1_0 a)) := by kernel_rfl
theorem X_strings_trimLeftASCII_1_0_eq (R : Orc) (k : Nat) (w : Bool) (a : ByteArray) : K_strings_trimLeftASCII_1 R k w (.exit 0) (X_strings_trimLeftASCII_1_0 a) = some ([.fz (.str a)], []) := by kernel_rfl
/-! strings.trimRightASCII -/
def C_strings_trimRightASCII : ACode := codeOf 33 Tryd.f33
def A_strings_trimRightASCII_b1 : ACode := C_strings_trimRightASCII.at [1, 0, 0, 0]
def A_strings_trimRightASCII_s1 : ACode := C_strings_trimRightASCII.at [1, 1]
def A_strings_trimRightASCII : AFunc := ⟨2, [(.tmp 4, .fz)], C_strings_trimRightASCII, none⟩
def K_strings_trimRightASCII_1 (R : Orc) (k : Nat) (w : Bool) : AExit → St → Option Ans := (kBlk 0 (kSeq R k w [] A_strings_trimRightASCII_s1 (kFin R [(.tmp 4, .fz)] [])))
def L_strings_trimRightASCII_1_0 (R : Orc) (k : Nat) (w : Bool) (n : Nat) (a : ByteArray) (b : FV) := loopL R k w [] [0, 1] [0] A_strings_trimRightASCII_b1 n ⟨[(0, .fz (.str a)), (1, .fz (.pt 256 true b 0))], [(4095, .dead)]⟩
def X_strings_trimRightASCII_1_0 (a : ByteArray) : St := ⟨[(0, .fz (.str a))], [(4095, .dead)]⟩
theorem E_strings_trimRightASCII (R : Orc) (k : Nat) (w : Bool) (a : ByteArray) (b : FV) : callL R k w A_strings_trimRightASCII [.fz (.str a), .fz (.pt 256 true b 0)] = onL (L_strings_trimRightASCII_1_0 R k w k a b) (K_strings_trimRightASCII_1 R k w) := by kernel_rfl
theorem L_strings_trimRightASCII_1_0_eq (R : Orc) (k : Nat) (w : Bool) (n : Nat) (a : ByteArray) (b : FV) : L_strings_trimRightASCII_1_0 R k w (n + 1) a b = ifB (decide ((ByteArray.size a : Int) > 0))
 (when ((decide (0 ≤ (IntKind.wrap .i64 ((ByteArray.size a : Int) - 1)))) && (decide ((IntKind.wrap .i64 ((ByteArray.size a : Int) - 1)) < (ByteArray.size a : Int)))) (onR (R N_strings_asciiSet_contains [.fz (.pt 256 true b 0), .fz (.int .u8 (((Array.getD (ByteArray.data a) (Int.toNat (IntKind.wrap .i64 ((ByteArray.size a : Int) - 1))) 0).toNat : Nat) : Int))]) fun r0 => when (List.isEmpty r0.2 && allF [.fz] r0.1) (when (isBool (toF (List.getD r0.1 0 em))) (ifB (!(toBool (toF (List.getD r0.1 0 em))))
 (some ((.exit 0), X_strings_trimRightASCII_1_0 a))
 (when (decide (0 ≤ (IntKind.wrap .i64 ((ByteArray.size a : Int) - 1))) && decide ((IntKind.wrap .i64 ((ByteArray.size a : Int) - 1)) ≤ (ByteArray.size a : Int))) (when (decide (0 ≤ 0) && decide (0 ≤ (IntKind.wrap .i64 ((ByteArray.size a : Int) - 1)))) (L_strings_trimRightASCII_1_0 R k w n (ByteArray.extract a 0 (Int.toNat (IntKind.wrap .i64 ((ByteArray.size a : Int) - 1)))) b)))))))
 (some ((.exit 0), X_strings_trimRightASCII_1_0 a)) := by kernel_rfl
theorem X_strings_trimRightASCII_1_0_eq (R : Orc) (k : Nat) (w : Bool) (a : ByteArray) : K_strings_trimRightASCII_1 R k w (.exit 0) (X_strings_trimRightASCII_1_0 a) = some ([.fz (.str a)], []) := by kernel_rfl
/-! strings.trimLeftUnicode -/
def C_strings_trimLeftUnicode : ACode := codeOf 34 Tryd.f34
def A_strings_trimLeftUnicode : AFunc := ⟨2, [(.tmp 4, .fz)], C_strings_trimLeftUnicode, none⟩
/-! strings.trimRightUnicode -/
def C_strings_trimRightUnicode : ACode := codeOf 35 Tryd.f35
def A_strings_trimRightUnicode : AFunc := ⟨2, [(.tmp 4, .fz)], C_strings_trimRightUnicode, none⟩
/-! keyhole/utf.Signs -/
def C_utf_Signs : ACode := codeOf 36 Tryd.f36
def A_utf_Signs_b1 : ACode := C_utf_Signs.at [1, 1, 1, 0, 1, 0, 0]
def A_utf_Signs_s1 : ACode := C_utf_Signs.at [1, 1, 1, 1]
def A_utf_Signs : AFunc := ⟨1, [(.tmp 2, .fz)], C_utf_Signs, none⟩
def K_utf_Signs_1 (R : Orc) (k : Nat) (w : Bool) : AExit → St → Option Ans := (kBlk 0 (kSeq R k w [] A_utf_Signs_s1 (kFin R [(.tmp 2, .fz)] [])))
def L_utf_Signs_1_0 (R : Orc) (k : Nat) (w : Bool) (n : Nat) (a : Int) (b : ByteArray) (c : Nat) := loopL R k w [] [3, 8] [3] A_utf_Signs_b1 n ⟨[(3, .fz (.int .i64 a)), (8, .ptr 4096 0 0)], [(4095, .dead), (4096, .itr b c)]⟩
def X_utf_Signs_1_0 (a : Int) : St := ⟨[(3, .fz (.int .i64 a))], [(4095, .dead)]⟩
theorem E_utf_Signs (R : Orc) (k : Nat) (w : Bool) (a : ByteArray) : callL R k w A_utf_Signs [.fz (.str a)] = onR (R N_utf_Valid [.fz (.str a)]) fun r0 => when (List.isEmpty r0.2 && allF [.fz] r0.1) (when (isBool (toF (List.getD r0.1 0 em))) (ifB (!(toBool (toF (List.getD r0.1 0 em))))
 (some ([.fz (.int .i64 0)], []))
 (onL (L_utf_Signs_1_0 R k w k 0 a 0) (K_utf_Signs_1 R k w)))) := by kernel_rfl
theorem L_utf_Signs_1_0_eq (R : Orc) (k : Nat) (w : Bool) (n : Nat) (a : Int) (b : ByteArray) (c : Nat) : L_utf_Signs_1_0 R k w (n + 1) a b c = ifB (Nat.blt c (ByteArray.size b))
 (L_utf_Signs_1_0 R k w n (IntKind.wrap .i64 (a + 1)) b (c + (Utf8.decode b c).2))
 (some ((.exit 0), X_utf_Signs_1_0 a)) := by kernel_rfl
theorem X_utf_Signs_1_0_eq (R : Orc) (k : Nat) (w : Bool) (a : Int) : K_utf_Signs_1 R k w (.exit 0) (X_utf_Signs_1_0 a) = some ([.fz (.int .i64 a)], []) := by kernel_rfl
/-! keyhole/utf.First -/
def C_utf_First : ACode := codeOf 37 Tryd.f37
def A_utf_First_b1 : ACode := C_utf_First.at [1, 1, 0, 1, 0, 1, 0, 0]
def A_utf_First_s1 : ACode := C_utf_First.at [1, 1, 0, 1, 1]
def A_utf_First_j2 : ACode := C_utf_First.at [1, 1, 0]
def A_utf_First : AFunc := ⟨2, [(.tmp 4, .fz)], C_utf_First, none⟩
def J_utf_First_2_0 (R : Orc) (k : Nat) (w : Bool) (a : ByteArray) (b : Int) := execL R k w [] A_utf_First_j2 Ans ⟨[(0, .fz (.str a)), (1, .fz (.int .i64 b))], [(4095, .dead)]⟩ (kFin R [(.tmp 4, .fz)] [])
def K_utf_First_1 (R : Orc) (k : Nat) (w : Bool) : AExit → St → Option Ans := (kBlk 0 (kSeq R k w [] A_utf_First_s1 (kFin R [(.tmp 4, .fz)] [])))
def L_utf_First_1_0 (R : Orc) (k : Nat) (w : Bool) (n : Nat) (a : ByteArray) (b c : Int) (d : ByteArray) (e : Nat) := loopL R k w [] [0, 1, 5, 15] [0, 4] A_utf_First_b1 n ⟨[(0, .fz (.str a)), (1, .fz (.int .i64 b)), (5, .fz (.int .i64 c)), (15, .ptr 4096 0 0)], [(4095, .dead), (4096, .itr d e)]⟩
def X_utf_First_1_0 (a b : ByteArray) : St := ⟨[(0, .fz (.str a)), (4, .fz (.str b))], [(4095, .dead)]⟩
def X_utf_First_1_1 (a : ByteArray) : St := ⟨[(0, .fz (.str a))], [(4095, .dead)]⟩
theorem E_utf_First (R : Orc) (k : Nat) (w : Bool) (a : ByteArray) (b : Int) : callL R k w A_utf_First [.fz (.str a), .fz (.int .i64 b)] = ifB (decide (b < 1))
 (some ([.fz (.str (⟨#[]⟩ : ByteArray))], []))
 (onR (R N_utf_Valid [.fz (.str a)]) fun r0 => when (List.isEmpty r0.2 && allF [.fz] r0.1) (when (isBool (toF (List.getD r0.1 0 em))) (ifB (!(toBool (toF (List.getD r0.1 0 em))))
 (some ([.fz (.str (⟨#[]⟩ : ByteArray))], []))
 (jump w (J_utf_First_2_0 R k w a b))))) := by kernel_rfl
theorem J_utf_First_2_0_eq (R : Orc) (k : Nat) (w : Bool) (a : ByteArray) (b : Int) : J_utf_First_2_0 R k w a b = onL (L_utf_First_1_0 R k w k a b 0 a 0) (K_utf_First_1 R k w) := by kernel_rfl
theorem L_utf_First_1_0_eq (R : Orc) (k : Nat) (w : Bool) (n : Nat) (a : ByteArray) (b c : Int) (d : ByteArray) (e : Nat) : L_utf_First_1_0 R k w (n + 1) a b c d e = ifB (Nat.blt e (ByteArray.size d))
 (ifB (c == b)
 (when (decide (0 ≤ (e : Int)) && decide ((e : Int) ≤ (ByteArray.size a : Int))) (when (decide (0 ≤ 0) && decide (0 ≤ (e : Int))) (some (.ret, X_utf_First_1_0 a (ByteArray.extract a 0 (Int.toNat (e : Int)))))))
 (L_utf_First_1_0 R k w n a b (IntKind.wrap .i64 (c + 1)) d (e + (Utf8.decode d e).2)))
 (some ((.exit 0), X_utf_First_1_1 a)) := by kernel_rfl
theorem X_utf_First_1_0_eq (R : Orc) (k : Nat) (w : Bool) (a b : ByteArray) : K_utf_First_1 R k w .ret (X_utf_First_1_0 a b) = some ([.fz (.str b)], []) := by kernel_rfl
theorem X_utf_First_1_1_eq (R : Orc) (k : Nat) (w : Bool) (a : ByteArray) : K_utf_First_1 R k w (.exit 0) (X_utf_First_1_1 a) = some ([.fz (.str a)], []) := by kernel_rfl
/-! internal/stringslite.Cut -/
def C_internal_stringslite_Cut : ACode := codeOf 38 Tryd.f38
def A_internal_stringslite_Cut : AFunc := ⟨2, [(.tmp 4, .fz), (.tmp 5, .fz), (.tmp 6, .fz)], C_internal_stringslite_Cut, none⟩
theorem E_internal_stringslite_Cut (R : Orc) (k : Nat) (w : Bool) (a b : ByteArray) : callL R k w A_internal_stringslite_Cut [.fz (.str a), .fz (.str b)] = onR (R N_internal_stringslite_Index [.fz (.str a), .fz (.str b)]) fun r0 => when (List.isEmpty r0.2 && allF [.fz] r0.1) (when (isInt .i64 (toF (List.getD r0.1 0 em))) (ifB (decide ((toInt (toF (List.getD r0.1 0 em))) ≥ 0))
 (when (decide (0 ≤ (toInt (toF (List.getD r0.1 0 em)))) && decide ((toInt (toF (List.getD r0.1 0 em))) ≤ (ByteArray.size a : Int))) (when (decide (0 ≤ 0) && decide (0 ≤ (toInt (toF (List.getD r0.1 0 em))))) (when (decide (0 ≤ (ByteArray.size a : Int)) && decide ((ByteArray.size a : Int) ≤ (ByteArray.size a : Int))) (when (decide (0 ≤ (IntKind.wrap .i64 ((toInt (toF (List.getD r0.1 0 em))) + (ByteArray.size b : Int)))) && decide ((IntKind.wrap .i64 ((toInt (toF (List.getD r0.1 0 em))) + (ByteArray.size b : Int))) ≤ (ByteArray.size a : Int))) (some ([.fz (.str (ByteArray.extract a 0 (Int.toNat (toInt (toF (List.getD r0.1 0 em)))))), .fz (.str (ByteArray.extract a (Int.toNat (IntKind.wrap .i64 ((toInt (toF (List.getD r0.1 0 em))) + (ByteArray.size b : Int)))) (Int.toNat (ByteArray.size a : Int)))), .fz (.bool true)], []))))))
 (some ([.fz (.str a), .fz (.str (⟨#[]⟩ : ByteArray)), .fz (.bool false)], [])))) := by kernel_rfl
/-! (*strings.asciiSet).contains -/
def C_strings_asciiSet_contains : ACode := codeOf 46 Tryd.f46
def A_strings_asciiSet_contains : AFunc := ⟨2, [(.tmp 4, .fz)], C_strings_asciiSet_contains, none⟩
theorem E_strings_asciiSet_contains (R : Orc) (k : Nat) (w : Bool) (a : FV) (b : Int) : callL R k w A_strings_asciiSet_contains [.fz (.pt 256 true a 0), .fz (.int .u8 b)] = when (decide (0 ≤ b) && decide (b < 256)) (when (isAg 256 a) (when (Nat.blt (0 + ((Int.toNat b) * 1)) 256) (when (isBool (cell a (0 + ((Int.toNat b) * 1)))) (some ([.fz (.bool (toBool (cell a (0 + ((Int.toNat b) * 1)))))], []))))) := by kernel_rfl
/-! unicode/utf8.DecodeRuneInString -/
def C_unicode_utf8_DecodeRuneInString : ACode := codeOf 47 Tryd.f47
def A_unicode_utf8_DecodeRuneInString : AFunc := ⟨1, [(.tmp 2, .fz), (.tmp 3, .fz)], C_unicode_utf8_DecodeRuneInString, none⟩
/-! strings.ContainsRune -/
def C_strings_ContainsRune : ACode := codeOf 48 Tryd.f48
def A_strings_ContainsRune : AFunc := ⟨2, [(.tmp 4, .fz)], C_strings_ContainsRune, none⟩
/-! keyhole/utf.Valid -/
def C_utf_Valid : ACode := codeOf 50 Tryd.f50
def A_utf_Valid_b1 : ACode := C_utf_Valid.at [1, 0, 0, 0]
def A_utf_Valid_s1 : ACode := C_utf_Valid.at [1, 1]
def A_utf_Valid : AFunc := ⟨1, [(.tmp 2, .fz)], C_utf_Valid, none⟩
def K_utf_Valid_1 (R : Orc) (k : Nat) (w : Bool) : AExit → St → Option Ans := (kBlk 0 (kSeq R k w [] A_utf_Valid_s1 (kFin R [(.tmp 2, .fz)] [])))
def L_utf_Valid_1_0 (R : Orc) (k : Nat) (w : Bool) (n : Nat) (a : ByteArray) := loopL R k w [] [0] [2] A_utf_Valid_b1 n ⟨[(0, .fz (.str a))], [(4095, .dead)]⟩
def X_utf_Valid_1_0 (a : Bool) : St := ⟨[(2, .fz (.bool a))], [(4095, .dead)]⟩
def X_utf_Valid_1_1 : St := ⟨[], [(4095, .dead)]⟩
theorem E_utf_Valid (R : Orc) (k : Nat) (w : Bool) (a : ByteArray) : callL R k w A_utf_Valid [.fz (.str a)] = onL (L_utf_Valid_1_0 R k w k a) (K_utf_Valid_1 R k w) := by kernel_rfl
theorem L_utf_Valid_1_0_eq (R : Orc) (k : Nat) (w : Bool) (n : Nat) (a : ByteArray) : L_utf_Valid_1_0 R k w (n + 1) a = ifB (!(ByteArray.toList a == ByteArray.toList (⟨#[]⟩ : ByteArray)))
 (onR (R N_utf_size [.fz (.str a)]) fun r0 => when (List.isEmpty r0.2 && allF [.fz] r0.1) (when (isInt .i64 (toF (List.getD r0.1 0 em))) (ifB ((toInt (toF (List.getD r0.1 0 em))) == 0)
 (some (.ret, X_utf_Valid_1_0 false))
 (when (decide (0 ≤ (ByteArray.size a : Int)) && decide ((ByteArray.size a : Int) ≤ (ByteArray.size a : Int))) (when (decide (0 ≤ (toInt (toF (List.getD r0.1 0 em)))) && decide ((toInt (toF (List.getD r0.1 0 em))) ≤ (ByteArray.size a : Int))) (L_utf_Valid_1_0 R k w n (ByteArray.extract a (Int.toNat (toInt (toF (List.getD r0.1 0 em)))) (Int.toNat (ByteArray.size a : Int)))))))))
 (some ((.exit 0), X_utf_Valid_1_1)) := by kernel_rfl
theorem X_utf_Valid_1_0_eq (R : Orc) (k : Nat) (w a : Bool) : K_utf_Valid_1 R k w .ret (X_utf_Valid_1_0 a) = some ([.fz (.bool a)], []) := by kernel_rfl
theorem X_utf_Valid_1_1_eq (R : Orc) (k : Nat) (w : Bool) : K_utf_Valid_1 R k w (.exit 0) (X_utf_Valid_1_1) = some ([.fz (.bool true)], []) := by kernel_rfl
/-! keyhole/utf.size -/
def C_utf_size : ACode := codeOf 58 Tryd.f58
def A_utf_size_j1 : ACode := C_utf_size.at [1, 1, 0, 0, 1, 1, 1, 0, 1, 0, 1, 0, 1, 1, 0]
def A_utf_size_j2 : ACode := C_utf_size.at [1, 1, 0, 0, 1, 1, 1, 0, 1, 0, 1, 0]
def A_utf_size_j3 : ACode := C_utf_size.at [1, 1, 0, 0, 1, 1, 1, 0, 1, 1, 0, 1, 0, 1, 0, 1, 1, 0]
def A_utf_size_j4 : ACode := C_utf_size.at [1, 1, 0, 0, 1, 1, 1, 0, 1, 1, 0, 1, 0, 1, 0]
def A_utf_size_s5 : ACode := C_utf_size.at [1, 1, 0, 0, 1, 1, 1, 0, 1, 1, 0, 1, 1]
def A_utf_size_j6 : ACode := C_utf_size.at [1, 1, 0, 0, 1, 1, 1, 0, 1, 1, 0]
def A_utf_size_s7 : ACode := C_utf_size.at [1, 1, 0, 0, 1, 1, 1, 0, 1, 1]
def A_utf_size_j8 : ACode := C_utf_size.at [1, 1, 0, 0, 1, 1, 1, 0]
def A_utf_size_s9 : ACode := C_utf_size.at [1, 1, 1]
def A_utf_size : AFunc := ⟨1, [(.tmp 2, .fz)], C_utf_size, none⟩
def J_utf_size_8_0 (R : Orc) (k : Nat) (w : Bool) (a : ByteArray) (b : Int) (c : Bool) := execL R k w [] A_utf_size_j8 Ans ⟨[(0, .fz (.str a)), (3, .fz (.int .u8 b)), (9, .fz (.bool c))], [(4095, .dead)]⟩ (kBlk 0 (kSeq R k w [] A_utf_size_s9 (kFin R [(.tmp 2, .fz)] [])))
def J_utf_size_2_0 (R : Orc) (k : Nat) (w : Bool) (a : ByteArray) (b : Int) (c : Bool) := execL R k w [] A_utf_size_j2 Ans ⟨[(0, .fz (.str a)), (3, .fz (.int .u8 b)), (20, .fz (.bool c))], [(4095, .dead)]⟩ (kSeq R k w [] A_utf_size_s7 (kBlk 0 (kSeq R k w [] A_utf_size_s9 (kFin R [(.tmp 2, .fz)] []))))
def J_utf_size_6_0 (R : Orc) (k : Nat) (w : Bool) (a : ByteArray) (b : Int) (c : Bool) := execL R k w [] A_utf_size_j6 Ans ⟨[(0, .fz (.str a)), (3, .fz (.int .u8 b)), (20, .fz (.bool c))], [(4095, .dead)]⟩ (kBlk 0 (kSeq R k w [] A_utf_size_s9 (kFin R [(.tmp 2, .fz)] [])))
def J_utf_size_1_0 (R : Orc) (k : Nat) (w : Bool) (a : ByteArray) (b : Int) (c : Bool) := execL R k w [] A_utf_size_j1 Ans ⟨[(0, .fz (.str a)), (3, .fz (.int .u8 b)), (20, .fz (.bool c))], [(4095, .dead)]⟩ (kSeq R k w [] A_utf_size_s7 (kBlk 0 (kSeq R k w [] A_utf_size_s9 (kFin R [(.tmp 2, .fz)] []))))
def J_utf_size_4_0 (R : Orc) (k : Nat) (w : Bool) (a : ByteArray) (b : Int) (c : Bool) := execL R k w [] A_utf_size_j4 Ans ⟨[(0, .fz (.str a)), (3, .fz (.int .u8 b)), (47, .fz (.bool c))], [(4095, .dead)]⟩ (kSeq R k w [] A_utf_size_s5 (kBlk 0 (kSeq R k w [] A_utf_size_s9 (kFin R [(.tmp 2, .fz)] []))))
def J_utf_size_3_0 (R : Orc) (k : Nat) (w : Bool) (a : ByteArray) (b : Int) (c : Bool) := execL R k w [] A_utf_size_j3 Ans ⟨[(0, .fz (.str a)), (3, .fz (.int .u8 b)), (47, .fz (.bool c))], [(4095, .dead)]⟩ (kSeq R k w [] A_utf_size_s5 (kBlk 0 (kSeq R k w [] A_utf_size_s9 (kFin R [(.tmp 2, .fz)] []))))
theorem E_utf_size (R : Orc) (k : Nat) (w : Bool) (a : ByteArray) : callL R k w A_utf_size [.fz (.str a)] = when (decide (0 < (ByteArray.size a : Int))) (ifB (decide ((((Array.getD (ByteArray.data a) 0 0).toNat : Nat) : Int) < 128))
 (some ([.fz (.int .i64 1)], []))
 (ifB (decide ((((Array.getD (ByteArray.data a) 0 0).toNat : Nat) : Int) ≥ 194))
 (ifB (decide ((((Array.getD (ByteArray.data a) 0 0).toNat : Nat) : Int) ≤ 223))
 (onR (R N_utf_tail [.fz (.str a), .fz (.int .i64 1), .fz (.int .u8 128), .fz (.int .u8 191)]) fun r0 => when (List.isEmpty r0.2 && allF [.fz] r0.1) (when (isBool (toF (List.getD r0.1 0 em))) (jump w (J_utf_size_8_0 R k w a (((Array.getD (ByteArray.data a) 0 0).toNat : Nat) : Int) (toBool (toF (List.getD r0.1 0 em)))))))
 (jump w (J_utf_size_8_0 R k w a (((Array.getD (ByteArray.data a) 0 0).toNat : Nat) : Int) false)))
 (jump w (J_utf_size_8_0 R k w a (((Array.getD (ByteArray.data a) 0 0).toNat : Nat) : Int) false)))) := by kernel_rfl
theorem J_utf_size_8_0_eq (R : Orc) (k : Nat) (w : Bool) (a : ByteArray) (b : Int) (c : Bool) : J_utf_size_8_0 R k w a b c = ifB c
 (some ([.fz (.int .i64 2)], []))
 (ifB (b == 224)
 (onR (R N_utf_tail [.fz (.str a), .fz (.int .i64 2), .fz (.int .u8 160), .fz (.int .u8 191)]) fun r1 => when (List.isEmpty r1.2 && allF [.fz] r1.1) (when (isBool (toF (List.getD r1.1 0 em))) (jump w (J_utf_size_2_0 R k w a b (toBool (toF (List.getD r1.1 0 em)))))))
 (jump w (J_utf_size_2_0 R k w a b false))) := by kernel_rfl
theorem J_utf_size_2_0_eq (R : Orc) (k : Nat) (w : Bool) (a : ByteArray) (b : Int) (c : Bool) : J_utf_size_2_0 R k w a b c = ifB c
 (jump w (J_utf_size_6_0 R k w a b true))
 (ifB (decide (b ≥ 225))
 (ifB (decide (b ≤ 239))
 (ifB (b != 237)
 (onR (R N_utf_tail [.fz (.str a), .fz (.int .i64 2), .fz (.int .u8 128), .fz (.int .u8 191)]) fun r2 => when (List.isEmpty r2.2 && allF [.fz] r2.1) (when (isBool (toF (List.getD r2.1 0 em))) (jump w (J_utf_size_1_0 R k w a b (toBool (toF (List.getD r2.1 0 em)))))))
 (jump w (J_utf_size_1_0 R k w a b false)))
 (jump w (J_utf_size_1_0 R k w a b false)))
 (jump w (J_utf_size_1_0 R k w a b false))) := by kernel_rfl
theorem J_utf_size_6_0_eq (R : Orc) (k : Nat) (w : Bool) (a : ByteArray) (b : Int) (c : Bool) : J_utf_size_6_0 R k w a b c = ifB c
 (some ([.fz (.int .i64 3)], []))
 (ifB (b == 240)
 (onR (R N_utf_tail [.fz (.str a), .fz (.int .i64 3), .fz (.int .u8 144), .fz (.int .u8 191)]) fun r3 => when (List.isEmpty r3.2 && allF [.fz] r3.1) (when (isBool (toF (List.getD r3.1 0 em))) (jump w (J_utf_size_4_0 R k w a b (toBool (toF (List.getD r3.1 0 em)))))))
 (jump w (J_utf_size_4_0 R k w a b false))) := by kernel_rfl
theorem J_utf_size_1_0_eq (R : Orc) (k : Nat) (w : Bool) (a : ByteArray) (b : Int) (c : Bool) : J_utf_size_1_0 R k w a b c = ifB c
 (jump w (J_utf_size_6_0 R k w a b true))
 (ifB (b == 237)
 (onR (R N_utf_tail [.fz (.str a), .fz (.int .i64 2), .fz (.int .u8 128), .fz (.int .u8 159)]) fun r4 => when (List.isEmpty r4.2 && allF [.fz] r4.1) (when (isBool (toF (List.getD r4.1 0 em))) (jump w (J_utf_size_6_0 R k w a b (toBool (toF (List.getD r4.1 0 em)))))))
 (jump w (J_utf_size_6_0 R k w a b false))) := by kernel_rfl
theorem J_utf_size_4_0_eq (R : Orc) (k : Nat) (w : Bool) (a : ByteArray) (b : Int) (c : Bool) : J_utf_size_4_0 R k w a b c = ifB c
 (some ([.fz (.int .i64 4)], []))
 (ifB (decide (b ≥ 241))
 (ifB (decide (b ≤ 243))
 (onR (R N_utf_tail [.fz (.str a), .fz (.int .i64 3), .fz (.int .u8 128), .fz (.int .u8 191)]) fun r5 => when (List.isEmpty r5.2 && allF [.fz] r5.1) (when (isBool (toF (List.getD r5.1 0 em))) (jump w (J_utf_size_3_0 R k w a b (toBool (toF (List.getD r5.1 0 em)))))))
 (jump w (J_utf_size_3_0 R k w a b false)))
 (jump w (J_utf_size_3_0 R k w a b false))) := by kernel_rfl
theorem J_utf_size_3_0_eq (R : Orc) (k : Nat) (w : Bool) (a : ByteArray) (b : Int) (c : Bool) : J_utf_size_3_0 R k w a b c = ifB c
 (some ([.fz (.int .i64 4)], []))
 (ifB (b == 244)
 (onR (R N_utf_tail [.fz (.str a), .fz (.int .i64 3), .fz (.int .u8 128), .fz (.int .u8 143)]) fun r6 => when (List.isEmpty r6.2 && allF [.fz] r6.1) (when (isBool (toF (List.getD r6.1 0 em))) (ifB (toBool (toF (List.getD r6.1 0 em)))
 (some ([.fz (.int .i64 4)], []))
 (some ([.fz (.int .i64 0)], [])))))
 (some ([.fz (.int .i64 0)], []))) := by kernel_rfl
/-! keyhole/utf.tail -/
def C_utf_tail : ACode := codeOf 63 Tryd.f63
def A_utf_tail_b1 : ACode := C_utf_tail.at [1, 1, 0, 0, 1, 0, 0]
def A_utf_tail_s1 : ACode := C_utf_tail.at [1, 1, 0, 1]
def A_utf_tail_j2 : ACode := C_utf_tail.at [1, 1, 0]
def A_utf_tail : AFunc := ⟨4, [(.tmp 8, .fz)], C_utf_tail, none⟩
def J_utf_tail_2_0 (R : Orc) (k : Nat) (w : Bool) (a : ByteArray) (b : Int) := execL R k w [] A_utf_tail_j2 Ans ⟨[(0, .fz (.str a)), (1, .fz (.int .i64 b))], [(4095, .dead)]⟩ (kFin R [(.tmp 8, .fz)] [])
def K_utf_tail_1 (R : Orc) (k : Nat) (w : Bool) : AExit → St → Option Ans := (kBlk 0 (kSeq R k w [] A_utf_tail_s1 (kFin R [(.tmp 8, .fz)] [])))
def L_utf_tail_1_0 (R : Orc) (k : Nat) (w : Bool) (n : Nat) (a : ByteArray) (b c : Int) := loopL R k w [] [0, 1, 9] [8] A_utf_tail_b1 n ⟨[(0, .fz (.str a)), (1, .fz (.int .i64 b)), (9, .fz (.int .i64 c))], [(4095, .dead)]⟩
def X_utf_tail_1_0 (a : Bool) : St := ⟨[(8, .fz (.bool a))], [(4095, .dead)]⟩
def X_utf_tail_1_1 : St := ⟨[], [(4095, .dead)]⟩
theorem E_utf_tail (R : Orc) (k : Nat) (w : Bool) (a : ByteArray) (b c d : Int) : callL R k w A_utf_tail [.fz (.str a), .fz (.int .i64 b), .fz (.int .u8 c), .fz (.int .u8 d)] = ifB (decide ((ByteArray.size a : Int) ≤ b))
 (some ([.fz (.bool false)], []))
 (when (decide (1 < (ByteArray.size a : Int))) (ifB (decide ((((Array.getD (ByteArray.data a) 1 0).toNat : Nat) : Int) < c))
 (some ([.fz (.bool false)], []))
 (when (decide (1 < (ByteArray.size a : Int))) (ifB (decide ((((Array.getD (ByteArray.data a) 1 0).toNat : Nat) : Int) > d))
 (some ([.fz (.bool false)], []))
 (jump w (J_utf_tail_2_0 R k w a b)))))) := by kernel_rfl
theorem J_utf_tail_2_0_eq (R : Orc) (k : Nat) (w : Bool) (a : ByteArray) (b : Int) : J_utf_tail_2_0 R k w a b = onL (L_utf_tail_1_0 R k w k a b 2) (K_utf_tail_1 R k w) := by kernel_rfl
theorem L_utf_tail_1_0_eq (R : Orc) (k : Nat) (w : Bool) (n : Nat) (a : ByteArray) (b c : Int) : L_utf_tail_1_0 R k w (n + 1) a b c = ifB (decide (c ≤ b))
 (when ((decide (0 ≤ c)) && (decide (c < (ByteArray.size a : Int)))) (ifB (decide ((((Array.getD (ByteArray.data a) (Int.toNat c) 0).toNat : Nat) : Int) < 128))
 (some (.ret, X_utf_tail_1_0 false))
 (when ((decide (0 ≤ c)) && (decide (c < (ByteArray.size a : Int)))) (ifB (decide ((((Array.getD (ByteArray.data a) (Int.toNat c) 0).toNat : Nat) : Int) > 191))
 (some (.ret, X_utf_tail_1_0 false))
 (L_utf_tail_1_0 R k w n a b (IntKind.wrap .i64 (c + 1)))))))
 (some ((.exit 0), X_utf_tail_1_1)) := by kernel_rfl
theorem X_utf_tail_1_0_eq (R : Orc) (k : Nat) (w a : Bool) : K_utf_tail_1 R k w .ret (X_utf_tail_1_0 a) = some ([.fz (.bool a)], []) := by kernel_rfl
theorem X_utf_tail_1_1_eq (R : Orc) (k : Nat) (w : Bool) : K_utf_tail_1 R k w (.exit 0) (X_utf_tail_1_1) = some ([.fz (.bool true)], []) := by kernel_rfl
end
end Go.Ab
