/- The row LedgerTexts, part 4 of 6: texts written for this work, merged by a program of the session. No condition. -/
import Derived.Test.YtfooakojccfflaaProg
import Derived.Shelf.Strings.BuilderK
import Derived.WalkKit
import Derived.BigCall
import Derived.Shelf.Strings.Repeat
import Derived.Test.YtfooakojccfflaaMLedgerTexts3
set_option linter.unusedVariables false
set_option linter.unusedSimpArgs false
set_option linter.unusedSectionVars false
section
namespace Go.Ab
open Go.Proofs FV TV
set_option maxRecDepth 100000
noncomputable section
def C_law28_quote : ACode := codeOf 28 Try.f28
def A_law28_quote : AFunc := ⟨1, [(.tmp 2, .fz)], C_law28_quote, none⟩
theorem E_law28_quote (R : Orc) (k : Nat) (w : Bool) (a : ByteArray) : callL R k w A_law28_quote [.fz (.str a)] = onR (R N_ref03_Signs [.fz (.str a)]) fun r0 => when (List.isEmpty r0.2 && allF [.fz, .fz] r0.1) (when (isBool (toF (List.getD r0.1 1 em))) (onR (R N_ref03_Quote [.fz (toF (List.getD r0.1 0 em))]) fun r1 => when (List.isEmpty r1.2 && allF [.fz] r1.1) (when (isStr (toF (List.getD r1.1 0 em))) (some ([.fz (.str (toStr (toF (List.getD r1.1 0 em))))], []))))) := by kernel_rfl
def C_ref04_Text : ACode := codeOf 29 Try.f29
def A_ref04_Text_j1 : ACode := C_ref04_Text.at [1, 1, 1, 1, 0, 1, 0, 0, 1, 0, 0, 0, 1, 1, 0, 1, 0]
def A_ref04_Text_j2 : ACode := C_ref04_Text.at [1, 1, 1, 1, 0, 1, 0, 0, 1, 0, 0, 0, 1, 1, 0]
def A_ref04_Text_s3 : ACode := C_ref04_Text.at [1, 1, 1, 1, 0, 1, 0, 0, 1, 0, 1]
def A_ref04_Text_j4 : ACode := C_ref04_Text.at [1, 1, 1, 1, 0, 1, 0, 0, 1, 0]
def A_ref04_Text_b1 : ACode := C_ref04_Text.at [1, 1, 1, 1, 0, 1, 0, 0]
def A_ref04_Text_s5 : ACode := C_ref04_Text.at [1, 1, 1, 1, 1]
def A_ref04_Text : AFunc := ⟨1, [(.tmp 2, .fz)], C_ref04_Text, none⟩
def K_ref04_Text_1 (R : Orc) (k : Nat) (w : Bool) : AExit → St → Option Ans := (kBlk 0 (kSeq R k w [] A_ref04_Text_s5 (kFin R [(.tmp 2, .fz)] [])))
def L_ref04_Text_1_0 (R : Orc) (k : Nat) (w : Bool) (n : Nat) (a : ByteArray) (b c d : Int) (e : FV) := loopL R k w [] [1, 3, 4, 5] [3, 4] A_ref04_Text_b1 n ⟨[(1, .ptr 4096 0 0), (3, .ptr 4097 0 0), (4, .fz (.str a)), (5, .fz (.int .i64 b))], [(4095, .dead), (4096, .var 2 true (.fz (.ag [.int .i64 c, .int .i64 d]))), (4097, .var 2 true (.fz e))]⟩
def J_ref04_Text_4_0 (R : Orc) (k : Nat) (w : Bool) (n : Nat) (a : ByteArray) (b c d : Int) (e : FV) := execL R k w [] A_ref04_Text_j4 (AExit × St) ⟨[(1, .ptr 4096 0 0), (3, .ptr 4097 0 0), (4, .fz (.str a)), (5, .fz (.int .i64 b))], [(4095, .dead), (4096, .var 2 true (.fz (.ag [.int .i64 c, .int .i64 d]))), (4097, .var 2 true (.fz e))]⟩ (kLoop R k w [] [1, 3, 4, 5] [3, 4] A_ref04_Text_b1 n)
def X_ref04_Text_1_0 (a : ByteArray) (b : FV) : St := ⟨[(3, .ptr 4096 0 0), (4, .fz (.str a))], [(4095, .dead), (4096, .var 2 true (.fz b))]⟩
def J_ref04_Text_2_0 (R : Orc) (k : Nat) (w : Bool) (n : Nat) (a : ByteArray) (b c d e : Int) (f : FV) := execL R k w [] A_ref04_Text_j2 (AExit × St) ⟨[(1, .ptr 4096 0 0), (3, .ptr 4097 0 0), (4, .fz (.str a)), (5, .fz (.int .i64 b)), (6, .fz (.int .i64 c))], [(4095, .dead), (4096, .var 2 true (.fz (.ag [.int .i64 d, .int .i64 e]))), (4097, .var 2 true (.fz f))]⟩ (kBlk 1 (kSeq R k w [] A_ref04_Text_s3 (kLoop R k w [] [1, 3, 4, 5] [3, 4] A_ref04_Text_b1 n)))
def J_ref04_Text_1_0 (R : Orc) (k : Nat) (w : Bool) (n : Nat) (a : ByteArray) (b c d e : Int) (f : FV) := execL R k w [] A_ref04_Text_j1 (AExit × St) ⟨[(1, .ptr 4096 0 0), (3, .ptr 4097 0 0), (4, .fz (.str a)), (5, .fz (.int .i64 b)), (6, .fz (.int .i64 c))], [(4095, .dead), (4096, .var 2 true (.fz (.ag [.int .i64 d, .int .i64 e]))), (4097, .var 2 true (.fz f))]⟩ (kBlk 1 (kSeq R k w [] A_ref04_Text_s3 (kLoop R k w [] [1, 3, 4, 5] [3, 4] A_ref04_Text_b1 n)))
theorem E_ref04_Text (R : Orc) (k : Nat) (w : Bool) (a b : Int) : callL R k w A_ref04_Text [.fz (.ag [.int .i64 a, .int .i64 b])] = onR (R N_ref04_Is [.fz (.ag [.int .i64 a, .int .i64 b])]) fun r0 => when (List.isEmpty r0.2 && allF [.fz] r0.1) (when (isBool (toF (List.getD r0.1 0 em))) (ifB (!(toBool (toF (List.getD r0.1 0 em))))
 (some ([.fz (.str (⟨#[63]⟩ : ByteArray))], []))
 (onR (R N_ref04_Of [.fz (.int .i64 a)]) fun r1 => when (List.isEmpty r1.2 && allF [.fz] r1.1) (when (fits 2 true (toF (List.getD r1.1 0 em))) (onL (L_ref04_Text_1_0 R k w k (⟨#[]⟩ : ByteArray) 0 a b (toF (List.getD r1.1 0 em))) (K_ref04_Text_1 R k w)))))) := by kernel_rfl
theorem L_ref04_Text_1_0_eq (R : Orc) (k : Nat) (w : Bool) (n : Nat) (a : ByteArray) (b c d : Int) (e : FV) : L_ref04_Text_1_0 R k w (n + 1) a b c d e = when (isAg 2 e) (when (isSl (cell e 1)) (ifB (decide (b < (List.length (toSl (cell e 1)) : Int)))
 (jump w (J_ref04_Text_4_0 R k w n a b c d e))
 (ifB (decide (b ≤ d))
 (jump w (J_ref04_Text_4_0 R k w n a b c d e))
 (some ((.exit 0), X_ref04_Text_1_0 a e))))) := by kernel_rfl
theorem J_ref04_Text_4_0_eq (R : Orc) (k : Nat) (w : Bool) (n : Nat) (a : ByteArray) (b c d : Int) (e : FV) : J_ref04_Text_4_0 R k w n a b c d e = when (isAg 2 e) (when (isSl (cell e 1)) (ifB (decide (b < (List.length (toSl (cell e 1)) : Int)))
 (when (isAg 2 e) (when (isSl (cell e 1)) (when ((decide (0 ≤ b)) && (decide (b < (List.length (toSl (cell e 1)) : Int)))) (when (fits 1 false (List.getD (toSl (cell e 1)) (Int.toNat b) nilp)) (when (isInt .i64 (List.getD (toSl (cell e 1)) (Int.toNat b) nilp)) (jump w (J_ref04_Text_2_0 R k w n a b (toInt (List.getD (toSl (cell e 1)) (Int.toNat b) nilp)) c d e)))))))
 (jump w (J_ref04_Text_2_0 R k w n a b 0 c d e)))) := by kernel_rfl
theorem X_ref04_Text_1_0_eq (R : Orc) (k : Nat) (w : Bool) (a : ByteArray) (b : FV) : K_ref04_Text_1 R k w (.exit 0) (X_ref04_Text_1_0 a b) = when (isAg 2 b) (when (isBool (cell b 0)) (ifB (toBool (cell b 0))
 (when (decide (ByteArray.size (⟨#[45]⟩ : ByteArray) + ByteArray.size a ≤ 2 ^ 62)) (some ([.fz (.str ((⟨#[45]⟩ : ByteArray) ++ a))], [])))
 (some ([.fz (.str a)], [])))) := by kernel_rfl
theorem J_ref04_Text_2_0_eq (R : Orc) (k : Nat) (w : Bool) (n : Nat) (a : ByteArray) (b c d e : Int) (f : FV) : J_ref04_Text_2_0 R k w n a b c d e f = ifB (b == e)
 (ifB (decide (b > 0))
 (when (decide (ByteArray.size (⟨#[46]⟩ : ByteArray) + ByteArray.size a ≤ 2 ^ 62)) (jump w (J_ref04_Text_1_0 R k w n ((⟨#[46]⟩ : ByteArray) ++ a) b c d e f)))
 (jump w (J_ref04_Text_1_0 R k w n a b c d e f)))
 (jump w (J_ref04_Text_1_0 R k w n a b c d e f)) := by kernel_rfl
theorem J_ref04_Text_1_0_eq (R : Orc) (k : Nat) (w : Bool) (n : Nat) (a : ByteArray) (b c d f : Int) (g : FV) : J_ref04_Text_1_0 R k w n a b c d f g = when (List.all [(.int .u8 (IntKind.wrap .u8 (IntKind.wrap .i64 (48 + c))))] (isInt .u8)) (when (decide (ByteArray.size (⟨(List.map (fun e => UInt8.ofNat (toInt e).toNat) [(.int .u8 (IntKind.wrap .u8 (IntKind.wrap .i64 (48 + c))))]).toArray⟩ : ByteArray) + ByteArray.size a ≤ 2 ^ 62)) (L_ref04_Text_1_0 R k w n ((⟨(List.map (fun e => UInt8.ofNat (toInt e).toNat) [(.int .u8 (IntKind.wrap .u8 (IntKind.wrap .i64 (48 + c))))]).toArray⟩ : ByteArray) ++ a) (IntKind.wrap .i64 (b + 1)) d f g)) := by kernel_rfl
def C_ref12_Text : ACode := codeOf 30 Try.f30
def A_ref12_Text : AFunc := ⟨4, [(.tmp 8, .fz)], C_ref12_Text, none⟩
theorem E_ref12_Text (R : Orc) (k : Nat) (w : Bool) (a b : List FV) (c d e f g : Int) (h : ByteArray) (i j : List FV) (l : Int) : callL R k w A_ref12_Text [.fz (.sl a), .fz (.sl b), .fz (.ag [.int .i64 c, .int .i64 d, .int .i64 e, .int .i64 f, .int .i64 g, .str h, .sl i, .sl j]), .fz (.int .i64 l)] = onR (R N_ref11_Erase [.fz (.sl a), .fz (.ag [.int .i64 c, .int .i64 d, .int .i64 e, .int .i64 f, .int .i64 g, .str h, .sl i, .sl j]), .fz (.int .i64 l)]) fun r0 => when (List.isEmpty r0.2 && allF [.fz] r0.1) (onR (R N_ref09_Bottom [.fz (.sl a)]) fun r1 => when (List.isEmpty r1.2 && allF [.fz] r1.1) (when (isInt .i64 (toF (List.getD r1.1 0 em))) (onR (R N_ref12_text [.fz (.sl b), .fz (toF (List.getD r0.1 0 em)), .fz (.int .i64 (toInt (toF (List.getD r1.1 0 em))))]) fun r2 => when (List.isEmpty r2.2 && allF [.fz] r2.1) (when (isStr (toF (List.getD r2.1 0 em))) (some ([.fz (.str (toStr (toF (List.getD r2.1 0 em))))], [])))))) := by kernel_rfl
def C_ledger_quoted : ACode := codeOf 32 Try.f32
def A_ledger_quoted : AFunc := ⟨1, [(.tmp 2, .fz)], C_ledger_quoted, none⟩
theorem E_ledger_quoted (R : Orc) (k : Nat) (w : Bool) (a : ByteArray) : callL R k w A_ledger_quoted [.fz (.str a)] = onR (R N_utf_Quote [.fz (.str a)]) fun r0 => when (List.isEmpty r0.2 && allF [.fz, .fz] r0.1) (when (isStr (toF (List.getD r0.1 0 em))) (when (isInt .i64 (toF (List.getD r0.1 1 em))) (some ([.fz (.str (toStr (toF (List.getD r0.1 0 em))))], [])))) := by kernel_rfl
def C_ledger_number : ACode := codeOf 33 Try.f33
def A_ledger_number : AFunc := ⟨1, [(.tmp 2, .fz)], C_ledger_number, none⟩
theorem E_ledger_number (R : Orc) (k : Nat) (w : Bool) (a : Int) : callL R k w A_ledger_number [.fz (.int .i64 a)] = onR (R N_num_Int [.fz (.int .i64 a)]) fun r0 => when (List.isEmpty r0.2 && allF [.fz, .fz] r0.1) (when (isInt .i64 (toF (List.getD r0.1 1 em))) (when (fits 2 true (toF (List.getD r0.1 0 em))) (ifB ((toInt (toF (List.getD r0.1 1 em))) != 0)
 (some ([.fz (.str (⟨#[48]⟩ : ByteArray))], []))
 (onR (R N_num_Text [.fz (toF (List.getD r0.1 0 em))]) fun r1 => when (List.isEmpty r1.2 && allF [.fz] r1.1) (when (isStr (toF (List.getD r1.1 0 em))) (some ([.fz (.str (toStr (toF (List.getD r1.1 0 em))))], []))))))) := by kernel_rfl
def C_level_Lattice_Text : ACode := codeOf 34 Try.f34
def A_level_Lattice_Text : AFunc := ⟨2, [(.tmp 4, .fz)], C_level_Lattice_Text, none⟩
theorem E_level_Lattice_Text (R : Orc) (k : Nat) (w : Bool) (a : FV) (b : Int) : callL R k w A_level_Lattice_Text [.fz (.pt 195 true a 0), .fz (.int .i64 b)] = onR (R N_level_Lattice_Is [.fz (.pt 195 true a 0), .fz (.int .i64 b)]) fun r0 => when (List.isEmpty r0.2 && allF [.fz] r0.1) (when (isBool (toF (List.getD r0.1 0 em))) (ifB (!(toBool (toF (List.getD r0.1 0 em))))
 (some ([.fz (.str (⟨#[]⟩ : ByteArray))], []))
 (when (isAg 195 a) (when (isSl (cell a 0)) (when ((decide (0 ≤ b)) && (decide (b < (List.length (toSl (cell a 0)) : Int)))) (when (fits 1 false (List.getD (toSl (cell a 0)) (Int.toNat b) nilp)) (when (isStr (List.getD (toSl (cell a 0)) (Int.toNat b) nilp)) (some ([.fz (.str (toStr (List.getD (toSl (cell a 0)) (Int.toNat b) nilp)))], []))))))))) := by kernel_rfl
def C_level_Lattice_Is : ACode := codeOf 44 Try.f44
def A_level_Lattice_Is : AFunc := ⟨2, [(.tmp 4, .fz)], C_level_Lattice_Is, none⟩
theorem E_level_Lattice_Is (R : Orc) (k : Nat) (w : Bool) (a : FV) (b : Int) : callL R k w A_level_Lattice_Is [.fz (.pt 195 true a 0), .fz (.int .i64 b)] = ifB (decide (b ≥ 0))
 (onR (R N_level_Lattice_Size [.fz (.pt 195 true a 0)]) fun r0 => when (List.isEmpty r0.2 && allF [.fz] r0.1) (when (isInt .i64 (toF (List.getD r0.1 0 em))) (some ([.fz (.bool (decide (b < (toInt (toF (List.getD r0.1 0 em))))))], []))))
 (some ([.fz (.bool false)], [])) := by kernel_rfl
def C_level_Name : ACode := codeOf 45 Try.f45
def A_level_Name_j1 : ACode := C_level_Name.at [1, 1, 0, 0, 1, 0, 0, 1, 1, 0, 0, 1, 1, 1, 0, 1, 0]
def A_level_Name_j2 : ACode := C_level_Name.at [1, 1, 0, 0, 1, 0, 0, 1, 1, 0, 0, 1, 1, 1, 0]
def A_level_Name_s3 : ACode := C_level_Name.at [1, 1, 0, 0, 1, 0, 0, 1, 1, 1]
def A_level_Name_b1 : ACode := C_level_Name.at [1, 1, 0, 0, 1, 0, 0]
def A_level_Name_s4 : ACode := C_level_Name.at [1, 1, 0, 1]
def A_level_Name_j5 : ACode := C_level_Name.at [1, 1, 0]
def A_level_Name : AFunc := ⟨1, [(.tmp 2, .fz)], C_level_Name, none⟩
def J_level_Name_5_0 (R : Orc) (k : Nat) (w : Bool) (a : ByteArray) := execL R k w [] A_level_Name_j5 Ans ⟨[(0, .fz (.str a))], [(4095, .dead)]⟩ (kFin R [(.tmp 2, .fz)] [])
def K_level_Name_1 (R : Orc) (k : Nat) (w : Bool) : AExit → St → Option Ans := (kBlk 0 (kSeq R k w [] A_level_Name_s4 (kFin R [(.tmp 2, .fz)] [])))
def L_level_Name_1_0 (R : Orc) (k : Nat) (w : Bool) (n : Nat) (a : ByteArray) (b c : Int) := loopL R k w [] [0, 15, 16] [2] A_level_Name_b1 n ⟨[(0, .fz (.str a)), (15, .fz (.int .i64 b)), (16, .fz (.int .i64 c))], [(4095, .dead)]⟩
def J_level_Name_2_0 (R : Orc) (k : Nat) (w : Bool) (n : Nat) (a : ByteArray) (b c : Int) (d : Bool) (e f : Int) := execL R k w [] A_level_Name_j2 (AExit × St) ⟨[(0, .fz (.str a)), (3, .fz (.int .i64 b)), (4, .fz (.int .u8 c)), (5, .fz (.bool d)), (15, .fz (.int .i64 e)), (16, .fz (.int .i64 f))], [(4095, .dead)]⟩ (kBlk 1 (kSeq R k w [] A_level_Name_s3 (kLoop R k w [] [0, 15, 16] [2] A_level_Name_b1 n)))
def X_level_Name_1_0 : St := ⟨[], [(4095, .dead)]⟩
def J_level_Name_1_0 (R : Orc) (k : Nat) (w : Bool) (n : Nat) (a : ByteArray) (b : Int) (c d : Bool) (e f : Int) := execL R k w [] A_level_Name_j1 (AExit × St) ⟨[(0, .fz (.str a)), (3, .fz (.int .i64 b)), (5, .fz (.bool c)), (6, .fz (.bool d)), (15, .fz (.int .i64 e)), (16, .fz (.int .i64 f))], [(4095, .dead)]⟩ (kBlk 1 (kSeq R k w [] A_level_Name_s3 (kLoop R k w [] [0, 15, 16] [2] A_level_Name_b1 n)))
def X_level_Name_1_1 (a : Bool) : St := ⟨[(2, .fz (.bool a))], [(4095, .dead)]⟩
theorem E_level_Name (R : Orc) (k : Nat) (w : Bool) (a : ByteArray) : callL R k w A_level_Name [.fz (.str a)] = ifB (ByteArray.toList a == ByteArray.toList (⟨#[]⟩ : ByteArray))
 (some ([.fz (.bool false)], []))
 (ifB (decide ((ByteArray.size a : Int) > 16))
 (some ([.fz (.bool false)], []))
 (jump w (J_level_Name_5_0 R k w a))) := by kernel_rfl
theorem J_level_Name_5_0_eq (R : Orc) (k : Nat) (w : Bool) (a : ByteArray) : J_level_Name_5_0 R k w a = onL (L_level_Name_1_0 R k w k a (ByteArray.size a : Int) 0) (K_level_Name_1 R k w) := by kernel_rfl
theorem L_level_Name_1_0_eq (R : Orc) (k : Nat) (w : Bool) (n : Nat) (a : ByteArray) (b c : Int) : L_level_Name_1_0 R k w (n + 1) a b c = ifB (decide (c < b))
 (when ((decide (0 ≤ c)) && (decide (c < (ByteArray.size a : Int)))) (ifB (decide ((((Array.getD (ByteArray.data a) (Int.toNat c) 0).toNat : Nat) : Int) ≥ 97))
 (jump w (J_level_Name_2_0 R k w n a c (((Array.getD (ByteArray.data a) (Int.toNat c) 0).toNat : Nat) : Int) (decide ((((Array.getD (ByteArray.data a) (Int.toNat c) 0).toNat : Nat) : Int) ≤ 122)) b c))
 (jump w (J_level_Name_2_0 R k w n a c (((Array.getD (ByteArray.data a) (Int.toNat c) 0).toNat : Nat) : Int) false b c))))
 (some ((.exit 0), X_level_Name_1_0)) := by kernel_rfl
theorem J_level_Name_2_0_eq (R : Orc) (k : Nat) (w : Bool) (n : Nat) (a : ByteArray) (b c : Int) (d : Bool) (e f : Int) : J_level_Name_2_0 R k w n a b c d e f = ifB (decide (c ≥ 48))
 (jump w (J_level_Name_1_0 R k w n a b d (decide (c ≤ 57)) e f))
 (jump w (J_level_Name_1_0 R k w n a b d false e f)) := by kernel_rfl
theorem X_level_Name_1_0_eq (R : Orc) (k : Nat) (w : Bool) : K_level_Name_1 R k w (.exit 0) (X_level_Name_1_0) = some ([.fz (.bool true)], []) := by kernel_rfl
theorem J_level_Name_1_0_eq (R : Orc) (k : Nat) (w : Bool) (n : Nat) (a : ByteArray) (b : Int) (c d : Bool) (e f : Int) : J_level_Name_1_0 R k w n a b c d e f = ifB (!c)
 (ifB (!d)
 (some (.ret, X_level_Name_1_1 false))
 (ifB (b == 0)
 (some (.ret, X_level_Name_1_1 false))
 (L_level_Name_1_0 R k w n a e (IntKind.wrap .i64 (f + 1)))))
 (L_level_Name_1_0 R k w n a e (IntKind.wrap .i64 (f + 1))) := by kernel_rfl
theorem X_level_Name_1_1_eq (R : Orc) (k : Nat) (w a : Bool) : K_level_Name_1 R k w .ret (X_level_Name_1_1 a) = some ([.fz (.bool a)], []) := by kernel_rfl
def C_level_turned : ACode := codeOf 46 Try.f46
def A_level_turned_b1 : ACode := C_level_turned.at [1, 1, 0, 1, 0, 0, 1, 1, 0, 0, 1, 1, 0, 0]
def A_level_turned_s1 : ACode := C_level_turned.at [1, 1, 0, 1, 0, 0, 1, 1, 1]
def A_level_turned_b2 : ACode := C_level_turned.at [1, 1, 0, 1, 0, 0]
def A_level_turned_s2 : ACode := C_level_turned.at [1, 1, 1]
def A_level_turned : AFunc := ⟨1, [(.cell 2 64 true, .fz)], C_level_turned, none⟩
def K_level_turned_2 (R : Orc) (k : Nat) (w : Bool) : AExit → St → Option Ans := (kBlk 0 (kSeq R k w [] A_level_turned_s2 (kFin R [(.cell 2 64 true, .fz)] [])))
def L_level_turned_2_0 (R : Orc) (k : Nat) (w : Bool) (n : Nat) (a : Int) (b c d : FV) := loopL R k w [] [1, 2, 3, 6] [2, 3] A_level_turned_b2 n ⟨[(1, .ptr 4096 0 0), (2, .ptr 4097 0 0), (3, .ptr 4098 0 0), (6, .fz (.int .i64 a))], [(4095, .dead), (4096, .var 64 true (.fz b)), (4097, .var 64 true (.fz c)), (4098, .var 64 true (.fz d))]⟩
def K_level_turned_1 (R : Orc) (k : Nat) (w : Bool) (n : Nat) : AExit → St → Option (AExit × St) := (kBlk 2 (kBlk 1 (kSeq R k w [] A_level_turned_s1 (kLoop R k w [] [1, 2, 3, 6] [2, 3] A_level_turned_b2 n))))
def L_level_turned_1_0 (R : Orc) (k : Nat) (w : Bool) (n : Nat) (a b c : Int) (d e f : FV) := loopL R k w [] [1, 2, 3, 4, 6, 9] [1, 2, 3, 6] A_level_turned_b1 n ⟨[(1, .ptr 4096 0 0), (2, .ptr 4097 0 0), (3, .ptr 4098 0 0), (4, .fz (.int .i64 a)), (6, .fz (.int .i64 b)), (9, .fz (.int .i64 c))], [(4095, .dead), (4096, .var 64 true (.fz d)), (4097, .var 64 true (.fz e)), (4098, .var 64 true (.fz f))]⟩
def X_level_turned_2_0 (a b : FV) : St := ⟨[(2, .ptr 4096 0 0), (3, .ptr 4097 0 0)], [(4095, .dead), (4096, .var 64 true (.fz a)), (4097, .var 64 true (.fz b))]⟩
def X_level_turned_1_0 (a : Int) (b c d : FV) : St := ⟨[(1, .ptr 4096 0 0), (2, .ptr 4097 0 0), (3, .ptr 4098 0 0), (6, .fz (.int .i64 a))], [(4095, .dead), (4096, .var 64 true (.fz b)), (4097, .var 64 true (.fz c)), (4098, .var 64 true (.fz d))]⟩
theorem E_level_turned (R : Orc) (k : Nat) (w : Bool) (a : FV) : callL R k w A_level_turned [.fz a] = when (fits 64 true a) (onL (L_level_turned_2_0 R k w k 0 a (.ag [.bool false, .bool false, .bool false, .bool false, .bool false, .bool false, .bool false, .bool false, .bool false, .bool false, .bool false, .bool false, .bool false, .bool false, .bool false, .bool false, .bool false, .bool false, .bool false, .bool false, .bool false, .bool false, .bool false, .bool false, .bool false, .bool false, .bool false, .bool false, .bool false, .bool false, .bool false, .bool false, .bool false, .bool false, .bool false, .bool false, .bool false, .bool false, .bool false, .bool false, .bool false, .bool false, .bool false, .bool false, .bool false, .bool false, .bool false, .bool false, .bool false, .bool false, .bool false, .bool false, .bool false, .bool false, .bool false, .bool false, .bool false, .bool false, .bool false, .bool false, .bool false, .bool false, .bool false, .bool false]) (.ag [.bool false, .bool false, .bool false, .bool false, .bool false, .bool false, .bool false, .bool false, .bool false, .bool false, .bool false, .bool false, .bool false, .bool false, .bool false, .bool false, .bool false, .bool false, .bool false, .bool false, .bool false, .bool false, .bool false, .bool false, .bool false, .bool false, .bool false, .bool false, .bool false, .bool false, .bool false, .bool false, .bool false, .bool false, .bool false, .bool false, .bool false, .bool false, .bool false, .bool false, .bool false, .bool false, .bool false, .bool false, .bool false, .bool false, .bool false, .bool false, .bool false, .bool false, .bool false, .bool false, .bool false, .bool false, .bool false, .bool false, .bool false, .bool false, .bool false, .bool false, .bool false, .bool false, .bool false, .bool false])) (K_level_turned_2 R k w)) := by kernel_rfl
theorem L_level_turned_2_0_eq (R : Orc) (k : Nat) (w : Bool) (n : Nat) (a : Int) (b c d : FV) : L_level_turned_2_0 R k w (n + 1) a b c d = ifB (decide (a < 8))
 (onL (L_level_turned_1_0 R k w k a a 0 b c d) (K_level_turned_1 R k w n))
 (some ((.exit 0), X_level_turned_2_0 c d)) := by kernel_rfl
theorem L_level_turned_1_0_eq (R : Orc) (k : Nat) (w : Bool) (n : Nat) (a b c : Int) (d e f : FV) : L_level_turned_1_0 R k w (n + 1) a b c d e f = ifB (decide (c < 8))
 (when (decide (0 ≤ a) && decide (a < 8)) (when (decide (0 ≤ c) && decide (c < 8)) (when (isAg 64 d) (when (Nat.blt ((0 + ((Int.toNat a) * 8)) + ((Int.toNat c) * 1)) 64) (when (isBool (cell d ((0 + ((Int.toNat a) * 8)) + ((Int.toNat c) * 1)))) (when (decide (0 ≤ c) && decide (c < 8)) (when (decide (0 ≤ a) && decide (a < 8)) (when ((isAg 64 f) && true) (when (Nat.blt ((0 + ((Int.toNat c) * 8)) + ((Int.toNat a) * 1)) 64) (L_level_turned_1_0 R k w n a b (IntKind.wrap .i64 (c + 1)) d e (.ag (List.set (toAg f) ((0 + ((Int.toNat c) * 8)) + ((Int.toNat a) * 1)) (.bool (toBool (cell d ((0 + ((Int.toNat a) * 8)) + ((Int.toNat c) * 1)))))))))))))))))
 (some ((.exit 2), X_level_turned_1_0 b d e f)) := by kernel_rfl
theorem X_level_turned_2_0_eq (R : Orc) (k : Nat) (w : Bool) (a b : FV) : K_level_turned_2 R k w (.exit 0) (X_level_turned_2_0 a b) = when (fits 64 true b) (some ([.fz b], [])) := by kernel_rfl
theorem X_level_turned_1_0_eq (R : Orc) (k : Nat) (w : Bool) (n : Nat) (a : Int) (b c d : FV) : K_level_turned_1 R k w n (.exit 2) (X_level_turned_1_0 a b c d) = L_level_turned_2_0 R k w n (IntKind.wrap .i64 (a + 1)) b c d := by kernel_rfl
def C_level_over : ACode := codeOf 47 Try.f47
def A_level_over_b1 : ACode := C_level_over.at [1, 0, 1, 0, 0, 1, 1, 0, 0, 1, 1, 0, 1, 0, 1, 0, 0]
def A_level_over_s1 : ACode := C_level_over.at [1, 0, 1, 0, 0, 1, 1, 0, 0, 1, 1, 0, 1, 1]
def A_level_over_j2 : ACode := C_level_over.at [1, 0, 1, 0, 0, 1, 1, 0, 0, 1, 1, 0]
def A_level_over_s3 : ACode := C_level_over.at [1, 0, 1, 0, 0, 1, 1, 1]
def A_level_over_b2 : ACode := C_level_over.at [1, 0, 1, 0, 0]
def A_level_over_s4 : ACode := C_level_over.at [1, 1]
def A_level_over : AFunc := ⟨4, [(.tmp 8, .fz)], C_level_over, none⟩
def K_level_over_2 (R : Orc) (k : Nat) (w : Bool) : AExit → St → Option Ans := (kBlk 0 (kSeq R k w [] A_level_over_s4 (kFin R [(.tmp 8, .fz)] [])))
def L_level_over_2_0 (R : Orc) (k : Nat) (w : Bool) (n : Nat) (a b c d e : Int) (f : FV) := loopL R k w [] [1, 2, 3, 4, 12, 13] [8] A_level_over_b2 n ⟨[(1, .fz (.int .i64 a)), (2, .fz (.int .i64 b)), (3, .fz (.int .i64 c)), (4, .ptr 4096 0 0), (12, .fz (.int .i64 d)), (13, .fz (.int .i64 e))], [(4095, .dead), (4096, .var 64 true (.fz f))]⟩
def J_level_over_2_0 (R : Orc) (k : Nat) (w : Bool) (n : Nat) (a b c d e f : Int) (g : FV) := execL R k w [] A_level_over_j2 (AExit × St) ⟨[(1, .fz (.int .i64 a)), (2, .fz (.int .i64 b)), (3, .fz (.int .i64 c)), (4, .ptr 4096 0 0), (9, .fz (.int .i64 d)), (12, .fz (.int .i64 e)), (13, .fz (.int .i64 f))], [(4095, .dead), (4096, .var 64 true (.fz g))]⟩ (kBlk 1 (kSeq R k w [] A_level_over_s3 (kLoop R k w [] [1, 2, 3, 4, 12, 13] [8] A_level_over_b2 n)))
def X_level_over_2_0 : St := ⟨[], [(4095, .dead)]⟩
def K_level_over_1 (R : Orc) (k : Nat) (w : Bool) (n : Nat) : AExit → St → Option (AExit × St) := (kBlk 2 (kSeq R k w [] A_level_over_s1 (kBlk 1 (kSeq R k w [] A_level_over_s3 (kLoop R k w [] [1, 2, 3, 4, 12, 13] [8] A_level_over_b2 n)))))
def L_level_over_1_0 (R : Orc) (k : Nat) (w : Bool) (n : Nat) (a b c d : Int) (e : Bool) (f g h i : Int) (j : FV) := loopL R k w [] [1, 2, 3, 4, 9, 10, 12, 13, 30, 31] [1, 2, 3, 4, 9, 10, 12, 13] A_level_over_b1 n ⟨[(1, .fz (.int .i64 a)), (2, .fz (.int .i64 b)), (3, .fz (.int .i64 c)), (4, .ptr 4096 0 0), (9, .fz (.int .i64 d)), (10, .fz (.bool e)), (12, .fz (.int .i64 f)), (13, .fz (.int .i64 g)), (30, .fz (.int .i64 h)), (31, .fz (.int .i64 i))], [(4095, .dead), (4096, .var 64 true (.fz j))]⟩
def X_level_over_1_0 (a b c d : Int) (e : Bool) (f g : Int) (h : FV) : St := ⟨[(1, .fz (.int .i64 a)), (2, .fz (.int .i64 b)), (3, .fz (.int .i64 c)), (4, .ptr 4096 0 0), (9, .fz (.int .i64 d)), (10, .fz (.bool e)), (12, .fz (.int .i64 f)), (13, .fz (.int .i64 g))], [(4095, .dead), (4096, .var 64 true (.fz h))]⟩
def X_level_over_2_1 (a : Int) : St := ⟨[(8, .fz (.int .i64 a))], [(4095, .dead)]⟩
theorem E_level_over (R : Orc) (k : Nat) (w : Bool) (a : FV) (b c d : Int) : callL R k w A_level_over [.fz a, .fz (.int .i64 b), .fz (.int .i64 c), .fz (.int .i64 d)] = when (fits 64 true a) (onL (L_level_over_2_0 R k w k b c d b 0 a) (K_level_over_2 R k w)) := by kernel_rfl
theorem L_level_over_2_0_eq (R : Orc) (k : Nat) (w : Bool) (n : Nat) (a b c d e : Int) (f : FV) : L_level_over_2_0 R k w (n + 1) a b c d e f = ifB (decide (e < d))
 (when (decide (0 ≤ b) && decide (b < 8)) (when (decide (0 ≤ e) && decide (e < 8)) (when (isAg 64 f) (when (Nat.blt ((0 + ((Int.toNat b) * 8)) + ((Int.toNat e) * 1)) 64) (when (isBool (cell f ((0 + ((Int.toNat b) * 8)) + ((Int.toNat e) * 1)))) (ifB (!(toBool (cell f ((0 + ((Int.toNat b) * 8)) + ((Int.toNat e) * 1)))))
 (L_level_over_2_0 R k w n a b c d (IntKind.wrap .i64 (e + 1)) f)
 (when (decide (0 ≤ c) && decide (c < 8)) (when (decide (0 ≤ e) && decide (e < 8)) (when (isAg 64 f) (when (Nat.blt ((0 + ((Int.toNat c) * 8)) + ((Int.toNat e) * 1)) 64) (when (isBool (cell f ((0 + ((Int.toNat c) * 8)) + ((Int.toNat e) * 1)))) (ifB (!(toBool (cell f ((0 + ((Int.toNat c) * 8)) + ((Int.toNat e) * 1)))))
 (L_level_over_2_0 R k w n a b c d (IntKind.wrap .i64 (e + 1)) f)
 (jump w (J_level_over_2_0 R k w n a b c e d e f))))))))))))))
 (some ((.exit 0), X_level_over_2_0)) := by kernel_rfl
theorem J_level_over_2_0_eq (R : Orc) (k : Nat) (w : Bool) (n : Nat) (a b c d e f : Int) (g : FV) : J_level_over_2_0 R k w n a b c d e f g = onL (L_level_over_1_0 R k w k a b c d true e f a 0 g) (K_level_over_1 R k w n) := by kernel_rfl
theorem X_level_over_2_0_eq (R : Orc) (k : Nat) (w : Bool) : K_level_over_2 R k w (.exit 0) (X_level_over_2_0) = some ([.fz (.int .i64 (-1))], []) := by kernel_rfl
theorem L_level_over_1_0_eq (R : Orc) (k : Nat) (w : Bool) (n : Nat) (a b c d : Int) (e : Bool) (f g h i : Int) (j : FV) : L_level_over_1_0 R k w (n + 1) a b c d e f g h i j = ifB (decide (i < h))
 (ifB e
 (when (decide (0 ≤ b) && decide (b < 8)) (when (decide (0 ≤ i) && decide (i < 8)) (when (isAg 64 j) (when (Nat.blt ((0 + ((Int.toNat b) * 8)) + ((Int.toNat i) * 1)) 64) (when (isBool (cell j ((0 + ((Int.toNat b) * 8)) + ((Int.toNat i) * 1)))) (ifB (!(toBool (cell j ((0 + ((Int.toNat b) * 8)) + ((Int.toNat i) * 1)))))
 (L_level_over_1_0 R k w n a b c d true f g h (IntKind.wrap .i64 (i + 1)) j)
 (when (decide (0 ≤ c) && decide (c < 8)) (when (decide (0 ≤ i) && decide (i < 8)) (when (isAg 64 j) (when (Nat.blt ((0 + ((Int.toNat c) * 8)) + ((Int.toNat i) * 1)) 64) (when (isBool (cell j ((0 + ((Int.toNat c) * 8)) + ((Int.toNat i) * 1)))) (ifB (!(toBool (cell j ((0 + ((Int.toNat c) * 8)) + ((Int.toNat i) * 1)))))
 (L_level_over_1_0 R k w n a b c d true f g h (IntKind.wrap .i64 (i + 1)) j)
 (when (decide (0 ≤ d) && decide (d < 8)) (when (decide (0 ≤ i) && decide (i < 8)) (when (isAg 64 j) (when (Nat.blt ((0 + ((Int.toNat d) * 8)) + ((Int.toNat i) * 1)) 64) (when (isBool (cell j ((0 + ((Int.toNat d) * 8)) + ((Int.toNat i) * 1)))) (L_level_over_1_0 R k w n a b c d (toBool (cell j ((0 + ((Int.toNat d) * 8)) + ((Int.toNat i) * 1)))) f g h (IntKind.wrap .i64 (i + 1)) j))))))))))))))))))
 (L_level_over_1_0 R k w n a b c d false f g h (IntKind.wrap .i64 (i + 1)) j))
 (some ((.exit 2), X_level_over_1_0 a b c d e f g j)) := by kernel_rfl
theorem X_level_over_1_0_eq (R : Orc) (k : Nat) (w : Bool) (n : Nat) (a b c d : Int) (e : Bool) (f g : Int) (h : FV) : K_level_over_1 R k w n (.exit 2) (X_level_over_1_0 a b c d e f g h) = ifB e
 (some (.ret, X_level_over_2_1 d))
 (L_level_over_2_0 R k w n a b c f (IntKind.wrap .i64 (g + 1)) h) := by kernel_rfl
theorem X_level_over_2_1_eq (R : Orc) (k : Nat) (w : Bool) (a : Int) : K_level_over_2 R k w .ret (X_level_over_2_1 a) = some ([.fz (.int .i64 a)], []) := by kernel_rfl
def C_ref09_Size : ACode := codeOf 48 Try.f48
def A_ref09_Size_b1 : ACode := C_ref09_Size.at [1, 1, 1, 0, 1, 0, 0]
def A_ref09_Size_s1 : ACode := C_ref09_Size.at [1, 1, 1, 1]
def A_ref09_Size : AFunc := ⟨3, [(.tmp 6, .fz)], C_ref09_Size, none⟩
def K_ref09_Size_1 (R : Orc) (k : Nat) (w : Bool) : AExit → St → Option Ans := (kBlk 0 (kSeq R k w [] A_ref09_Size_s1 (kFin R [(.tmp 6, .fz)] [])))
def L_ref09_Size_1_0 (R : Orc) (k : Nat) (w : Bool) (n : Nat) (a b c d e f g h : Int) (i : ByteArray) (j l : List FV) := loopL R k w [] [1, 2, 3, 7] [1] A_ref09_Size_b1 n ⟨[(1, .fz (.int .i64 a)), (2, .fz (.int .i64 b)), (3, .ptr 4096 0 0), (7, .fz (.int .i64 c))], [(4095, .dead), (4096, .var 8 true (.fz (.ag [.int .i64 d, .int .i64 e, .int .i64 f, .int .i64 g, .int .i64 h, .str i, .sl j, .sl l])))]⟩
def X_ref09_Size_1_0 (a : Int) : St := ⟨[(1, .fz (.int .i64 a))], [(4095, .dead)]⟩
theorem E_ref09_Size (R : Orc) (k : Nat) (w : Bool) (a b c d e : Int) (f : ByteArray) (g h : List FV) (i j : Int) : callL R k w A_ref09_Size [.fz (.ag [.int .i64 a, .int .i64 b, .int .i64 c, .int .i64 d, .int .i64 e, .str f, .sl g, .sl h]), .fz (.int .i64 i), .fz (.int .i64 j)] = ifB (decide (i ≥ j))
 (some ([.fz (.int .i64 i)], []))
 (onL (L_ref09_Size_1_0 R k w k (IntKind.wrap .i64 (i + 1)) j 0 a b c d e f g h) (K_ref09_Size_1 R k w)) := by kernel_rfl
theorem L_ref09_Size_1_0_eq (R : Orc) (k : Nat) (w : Bool) (n : Nat) (a b c d e f g h : Int) (i : ByteArray) (j l : List FV) : L_ref09_Size_1_0 R k w (n + 1) a b c d e f g h i j l = ifB (decide (c < (List.length j : Int)))
 (when ((decide (0 ≤ c)) && (decide (c < (List.length j : Int)))) (when (fits 8 true (List.getD j (Int.toNat c) nilp)) (onR (R N_ref09_Size [.fz (List.getD j (Int.toNat c) nilp), .fz (.int .i64 a), .fz (.int .i64 b)]) fun r0 => when (List.isEmpty r0.2 && allF [.fz] r0.1) (when (isInt .i64 (toF (List.getD r0.1 0 em))) (L_ref09_Size_1_0 R k w n (toInt (toF (List.getD r0.1 0 em))) b (IntKind.wrap .i64 (c + 1)) d e f g h i j l)))))
 (some ((.exit 0), X_ref09_Size_1_0 a)) := by kernel_rfl
theorem X_ref09_Size_1_0_eq (R : Orc) (k : Nat) (w : Bool) (a : Int) : K_ref09_Size_1 R k w (.exit 0) (X_ref09_Size_1_0 a) = some ([.fz (.int .i64 a)], []) := by kernel_rfl
def C_ref09_Flat : ACode := codeOf 49 Try.f49
def A_ref09_Flat_b1 : ACode := C_ref09_Flat.at [1, 1, 0, 1, 0, 0]
def A_ref09_Flat_s1 : ACode := C_ref09_Flat.at [1, 1, 1]
def A_ref09_Flat : AFunc := ⟨2, [(.tmp 4, .fz)], C_ref09_Flat, none⟩
def K_ref09_Flat_1 (R : Orc) (k : Nat) (w : Bool) : AExit → St → Option Ans := (kBlk 0 (kSeq R k w [] A_ref09_Flat_s1 (kFin R [(.tmp 4, .fz)] [])))
def L_ref09_Flat_1_0 (R : Orc) (k : Nat) (w : Bool) (n : Nat) (a b c d e f g : Int) (h : ByteArray) (i j : List FV) := loopL R k w [] [1, 2, 5] [4] A_ref09_Flat_b1 n ⟨[(1, .fz (.int .i64 a)), (2, .ptr 4096 0 0), (5, .fz (.int .i64 b))], [(4095, .dead), (4096, .var 8 true (.fz (.ag [.int .i64 c, .int .i64 d, .int .i64 e, .int .i64 f, .int .i64 g, .str h, .sl i, .sl j])))]⟩
def X_ref09_Flat_1_0 (a : Bool) : St := ⟨[(4, .fz (.bool a))], [(4095, .dead)]⟩
def X_ref09_Flat_1_1 : St := ⟨[], [(4095, .dead)]⟩
theorem E_ref09_Flat (R : Orc) (k : Nat) (w : Bool) (a b c d e : Int) (f : ByteArray) (g h : List FV) (i : Int) : callL R k w A_ref09_Flat [.fz (.ag [.int .i64 a, .int .i64 b, .int .i64 c, .int .i64 d, .int .i64 e, .str f, .sl g, .sl h]), .fz (.int .i64 i)] = ifB (decide (i < 0))
 (some ([.fz (.bool false)], []))
 (onL (L_ref09_Flat_1_0 R k w k i 0 a b c d e f g h) (K_ref09_Flat_1 R k w)) := by kernel_rfl
theorem L_ref09_Flat_1_0_eq (R : Orc) (k : Nat) (w : Bool) (n : Nat) (a b c d e f g : Int) (h : ByteArray) (i j : List FV) : L_ref09_Flat_1_0 R k w (n + 1) a b c d e f g h i j = ifB (decide (b < (List.length i : Int)))
 (when ((decide (0 ≤ b)) && (decide (b < (List.length i : Int)))) (when (fits 8 true (List.getD i (Int.toNat b) nilp)) (onR (R N_ref09_Flat [.fz (List.getD i (Int.toNat b) nilp), .fz (.int .i64 (IntKind.wrap .i64 (a - 1)))]) fun r0 => when (List.isEmpty r0.2 && allF [.fz] r0.1) (when (isBool (toF (List.getD r0.1 0 em))) (ifB (!(toBool (toF (List.getD r0.1 0 em))))
 (some (.ret, X_ref09_Flat_1_0 false))
 (L_ref09_Flat_1_0 R k w n a (IntKind.wrap .i64 (b + 1)) c d e f g h i j))))))
 (some ((.exit 0), X_ref09_Flat_1_1)) := by kernel_rfl
theorem X_ref09_Flat_1_0_eq (R : Orc) (k : Nat) (w a : Bool) : K_ref09_Flat_1 R k w .ret (X_ref09_Flat_1_0 a) = some ([.fz (.bool a)], []) := by kernel_rfl
theorem X_ref09_Flat_1_1_eq (R : Orc) (k : Nat) (w : Bool) : K_ref09_Flat_1 R k w (.exit 0) (X_ref09_Flat_1_1) = some ([.fz (.bool true)], []) := by kernel_rfl
def C_ref09_Labels : ACode := codeOf 50 Try.f50
def A_ref09_Labels_b1 : ACode := C_ref09_Labels.at [1, 1, 0, 0, 1, 0, 0]
def A_ref09_Labels_s1 : ACode := C_ref09_Labels.at [1, 1, 0, 1]
def A_ref09_Labels_j2 : ACode := C_ref09_Labels.at [1, 1, 0]
def A_ref09_Labels : AFunc := ⟨2, [(.tmp 4, .fz)], C_ref09_Labels, none⟩
def J_ref09_Labels_2_0 (R : Orc) (k : Nat) (w : Bool) (a : List FV) (b c d e f : Int) (g : ByteArray) (h i : List FV) := execL R k w [] A_ref09_Labels_j2 Ans ⟨[(0, .fz (.sl a)), (3, .ptr 4096 0 0)], [(4095, .dead), (4096, .var 8 true (.fz (.ag [.int .i64 b, .int .i64 c, .int .i64 d, .int .i64 e, .int .i64 f, .str g, .sl h, .sl i])))]⟩ (kFin R [(.tmp 4, .fz)] [])
def K_ref09_Labels_1 (R : Orc) (k : Nat) (w : Bool) : AExit → St → Option Ans := (kBlk 0 (kSeq R k w [] A_ref09_Labels_s1 (kFin R [(.tmp 4, .fz)] [])))
def L_ref09_Labels_1_0 (R : Orc) (k : Nat) (w : Bool) (n : Nat) (a : List FV) (b c d e f g : Int) (h : ByteArray) (i j : List FV) := loopL R k w [] [0, 3, 5] [4] A_ref09_Labels_b1 n ⟨[(0, .fz (.sl a)), (3, .ptr 4096 0 0), (5, .fz (.int .i64 b))], [(4095, .dead), (4096, .var 8 true (.fz (.ag [.int .i64 c, .int .i64 d, .int .i64 e, .int .i64 f, .int .i64 g, .str h, .sl i, .sl j])))]⟩
def X_ref09_Labels_1_0 (a : Bool) : St := ⟨[(4, .fz (.bool a))], [(4095, .dead)]⟩
def X_ref09_Labels_1_1 : St := ⟨[], [(4095, .dead)]⟩
theorem E_ref09_Labels (R : Orc) (k : Nat) (w : Bool) (a : List FV) (b c d e f : Int) (g : ByteArray) (h i : List FV) : callL R k w A_ref09_Labels [.fz (.sl a), .fz (.ag [.int .i64 b, .int .i64 c, .int .i64 d, .int .i64 e, .int .i64 f, .str g, .sl h, .sl i])] = ifB (decide (b < 0))
 (some ([.fz (.bool false)], []))
 (ifB (decide (b ≥ (List.length a : Int)))
 (some ([.fz (.bool false)], []))
 (jump w (J_ref09_Labels_2_0 R k w a b c d e f g h i))) := by kernel_rfl
theorem J_ref09_Labels_2_0_eq (R : Orc) (k : Nat) (w : Bool) (a : List FV) (b c d e f : Int) (g : ByteArray) (h i : List FV) : J_ref09_Labels_2_0 R k w a b c d e f g h i = onL (L_ref09_Labels_1_0 R k w k a 0 b c d e f g h i) (K_ref09_Labels_1 R k w) := by kernel_rfl
theorem L_ref09_Labels_1_0_eq (R : Orc) (k : Nat) (w : Bool) (n : Nat) (a : List FV) (b c d e f g : Int) (h : ByteArray) (i j : List FV) : L_ref09_Labels_1_0 R k w (n + 1) a b c d e f g h i j = ifB (decide (b < (List.length i : Int)))
 (when ((decide (0 ≤ b)) && (decide (b < (List.length i : Int)))) (when (fits 8 true (List.getD i (Int.toNat b) nilp)) (onR (R N_ref09_Labels [.fz (.sl a), .fz (List.getD i (Int.toNat b) nilp)]) fun r0 => when (List.isEmpty r0.2 && allF [.fz] r0.1) (when (isBool (toF (List.getD r0.1 0 em))) (ifB (!(toBool (toF (List.getD r0.1 0 em))))
 (some (.ret, X_ref09_Labels_1_0 false))
 (L_ref09_Labels_1_0 R k w n a (IntKind.wrap .i64 (b + 1)) c d e f g h i j))))))
 (some ((.exit 0), X_ref09_Labels_1_1)) := by kernel_rfl
theorem X_ref09_Labels_1_0_eq (R : Orc) (k : Nat) (w a : Bool) : K_ref09_Labels_1 R k w .ret (X_ref09_Labels_1_0 a) = some ([.fz (.bool a)], []) := by kernel_rfl
theorem X_ref09_Labels_1_1_eq (R : Orc) (k : Nat) (w : Bool) : K_ref09_Labels_1 R k w (.exit 0) (X_ref09_Labels_1_1) = some ([.fz (.bool true)], []) := by kernel_rfl
def C_ref09_right : ACode := codeOf 51 Try.f51
def A_ref09_right_b1 : ACode := C_ref09_right.at [1, 1, 0, 1, 0, 0]
def A_ref09_right_s1 : ACode := C_ref09_right.at [1, 1, 1]
def A_ref09_right : AFunc := ⟨2, [(.tmp 4, .fz)], C_ref09_right, none⟩
def K_ref09_right_1 (R : Orc) (k : Nat) (w : Bool) : AExit → St → Option Ans := (kBlk 0 (kSeq R k w [] A_ref09_right_s1 (kFin R [(.tmp 4, .fz)] [])))
def L_ref09_right_1_0 (R : Orc) (k : Nat) (w : Bool) (n : Nat) (a : List FV) (b c d e f g : Int) (h : ByteArray) (i j : List FV) := loopL R k w [] [0, 3, 5] [4] A_ref09_right_b1 n ⟨[(0, .fz (.sl a)), (3, .ptr 4096 0 0), (5, .fz (.int .i64 b))], [(4095, .dead), (4096, .var 8 true (.fz (.ag [.int .i64 c, .int .i64 d, .int .i64 e, .int .i64 f, .int .i64 g, .str h, .sl i, .sl j])))]⟩
def X_ref09_right_1_0 (a : Bool) : St := ⟨[(4, .fz (.bool a))], [(4095, .dead)]⟩
def X_ref09_right_1_1 : St := ⟨[], [(4095, .dead)]⟩
theorem E_ref09_right (R : Orc) (k : Nat) (w : Bool) (a : List FV) (b c d e f : Int) (g : ByteArray) (h i : List FV) : callL R k w A_ref09_right [.fz (.sl a), .fz (.ag [.int .i64 b, .int .i64 c, .int .i64 d, .int .i64 e, .int .i64 f, .str g, .sl h, .sl i])] = onR (R N_ref09_Deep [.fz (.sl a), .fz (.ag [.int .i64 b, .int .i64 c, .int .i64 d, .int .i64 e, .int .i64 f, .str g, .sl h, .sl i])]) fun r0 => when (List.isEmpty r0.2 && allF [.fz] r0.1) (when (isInt .i64 (toF (List.getD r0.1 0 em))) (ifB (c != (toInt (toF (List.getD r0.1 0 em))))
 (some ([.fz (.bool false)], []))
 (onL (L_ref09_right_1_0 R k w k a 0 b c d e f g h i) (K_ref09_right_1 R k w)))) := by kernel_rfl
theorem L_ref09_right_1_0_eq (R : Orc) (k : Nat) (w : Bool) (n : Nat) (a : List FV) (b c d e f g : Int) (h : ByteArray) (i j : List FV) : L_ref09_right_1_0 R k w (n + 1) a b c d e f g h i j = ifB (decide (b < (List.length i : Int)))
 (when ((decide (0 ≤ b)) && (decide (b < (List.length i : Int)))) (when (fits 8 true (List.getD i (Int.toNat b) nilp)) (onR (R N_ref09_right [.fz (.sl a), .fz (List.getD i (Int.toNat b) nilp)]) fun r1 => when (List.isEmpty r1.2 && allF [.fz] r1.1) (when (isBool (toF (List.getD r1.1 0 em))) (ifB (!(toBool (toF (List.getD r1.1 0 em))))
 (some (.ret, X_ref09_right_1_0 false))
 (L_ref09_right_1_0 R k w n a (IntKind.wrap .i64 (b + 1)) c d e f g h i j))))))
 (some ((.exit 0), X_ref09_right_1_1)) := by kernel_rfl
theorem X_ref09_right_1_0_eq (R : Orc) (k : Nat) (w a : Bool) : K_ref09_right_1 R k w .ret (X_ref09_right_1_0 a) = some ([.fz (.bool a)], []) := by kernel_rfl
theorem X_ref09_right_1_1_eq (R : Orc) (k : Nat) (w : Bool) : K_ref09_right_1 R k w (.exit 0) (X_ref09_right_1_1) = some ([.fz (.bool true)], []) := by kernel_rfl
def C_ref09_shape : ACode := codeOf 52 Try.f52
def A_ref09_shape_b1 : ACode := C_ref09_shape.at [1, 1, 1, 1, 0, 0, 1, 0, 0]
def A_ref09_shape_b2 : ACode := C_ref09_shape.at [1, 1, 1, 1, 0, 1, 1, 0, 1, 0, 0]
def A_ref09_shape_s1 : ACode := C_ref09_shape.at [1, 1, 1, 1, 0, 1, 1, 1]
def A_ref09_shape_s2 : ACode := C_ref09_shape.at [1, 1, 1, 1, 0, 1]
def A_ref09_shape_j3 : ACode := C_ref09_shape.at [1, 1, 1, 1, 0]
def A_ref09_shape : AFunc := ⟨1, [(.tmp 2, .fz)], C_ref09_shape, none⟩
def J_ref09_shape_3_0 (R : Orc) (k : Nat) (w : Bool) (a b c : Int) (d : ByteArray) (e f : List FV) (g h i : Int) (j : ByteArray) (l : List FV) := execL R k w [] A_ref09_shape_j3 Ans ⟨[(1, .ptr 4096 0 0), (3, .ptr 4097 0 0)], [(4095, .dead), (4096, .var 6 true (.fz (.ag [.int .i64 a, .int .i64 b, .int .i64 c, .str d, .sl e, .sl f]))), (4097, .var 6 true (.ag [.fz (.int .i64 g), .fz (.int .i64 h), .fz (.int .i64 i), .fz (.str j), .nils, .fz (.sl l)]))]⟩ (kFin R [(.tmp 2, .fz)] [])
def K_ref09_shape_1 (R : Orc) (k : Nat) (w : Bool) : AExit → St → Option Ans := (kBlk 0 (kSeq R k w [] A_ref09_shape_s2 (kFin R [(.tmp 2, .fz)] [])))
def L_ref09_shape_1_0 (R : Orc) (k : Nat) (w : Bool) (n : Nat) (a b c d : Int) (e : ByteArray) (f g : List FV) (h i j : Int) (l : ByteArray) (m : List FV) := loopL R k w [] [1, 3, 4] [1, 3] A_ref09_shape_b1 n ⟨[(1, .ptr 4096 0 0), (3, .ptr 4097 0 0), (4, .fz (.int .i64 a))], [(4095, .dead), (4096, .var 6 true (.fz (.ag [.int .i64 b, .int .i64 c, .int .i64 d, .str e, .sl f, .sl g]))), (4097, .var 6 true (.ag [.fz (.int .i64 h), .fz (.int .i64 i), .fz (.int .i64 j), .fz (.str l), .nils, .fz (.sl m)]))]⟩
def L_ref09_shape_1_1 (R : Orc) (k : Nat) (w : Bool) (n : Nat) (a b c d : Int) (e : ByteArray) (f g : List FV) (h i j : Int) (l : ByteArray) (m o : List FV) := loopL R k w [] [1, 3, 4] [1, 3] A_ref09_shape_b1 n ⟨[(1, .ptr 4096 0 0), (3, .ptr 4097 0 0), (4, .fz (.int .i64 a))], [(4095, .dead), (4096, .var 6 true (.fz (.ag [.int .i64 b, .int .i64 c, .int .i64 d, .str e, .sl f, .sl g]))), (4097, .var 6 true (.ag [.fz (.int .i64 h), .fz (.int .i64 i), .fz (.int .i64 j), .fz (.str l), .rw 4098, .fz (.sl m)])), (4098, .row 6 true o)]⟩
def X_ref09_shape_1_0 (a b c : Int) (d : ByteArray) (e f : List FV) (g h i : Int) (j : ByteArray) (l : List FV) : St := ⟨[(1, .ptr 4096 0 0), (3, .ptr 4097 0 0)], [(4095, .dead), (4096, .var 6 true (.fz (.ag [.int .i64 a, .int .i64 b, .int .i64 c, .str d, .sl e, .sl f]))), (4097, .var 6 true (.ag [.fz (.int .i64 g), .fz (.int .i64 h), .fz (.int .i64 i), .fz (.str j), .nils, .fz (.sl l)]))]⟩
def X_ref09_shape_1_1 (a b c : Int) (d : ByteArray) (e f : List FV) (g h i : Int) (j : ByteArray) (l m : List FV) : St := ⟨[(1, .ptr 4096 0 0), (3, .ptr 4097 0 0)], [(4095, .dead), (4096, .var 6 true (.fz (.ag [.int .i64 a, .int .i64 b, .int .i64 c, .str d, .sl e, .sl f]))), (4097, .var 6 true (.ag [.fz (.int .i64 g), .fz (.int .i64 h), .fz (.int .i64 i), .fz (.str j), .rw 4098, .fz (.sl l)])), (4098, .row 6 true m)]⟩
def K_ref09_shape_2 (R : Orc) (k : Nat) (w : Bool) : AExit → St → Option Ans := (kBlk 2 (kSeq R k w [] A_ref09_shape_s1 (kFin R [(.tmp 2, .fz)] [])))
def L_ref09_shape_2_0 (R : Orc) (k : Nat) (w : Bool) (n : Nat) (a b c d : Int) (e : ByteArray) (f g : List FV) := loopL R k w [] [1, 5] [2] A_ref09_shape_b2 n ⟨[(1, .ptr 4096 0 0), (5, .fz (.int .i64 a))], [(4095, .dead), (4096, .var 6 true (.fz (.ag [.int .i64 b, .int .i64 c, .int .i64 d, .str e, .sl f, .sl g])))]⟩
def X_ref09_shape_2_0 (a : Bool) : St := ⟨[(2, .fz (.bool a))], [(4095, .dead)]⟩
def X_ref09_shape_2_1 : St := ⟨[], [(4095, .dead)]⟩
theorem E_ref09_shape (R : Orc) (k : Nat) (w : Bool) (a b c : Int) (d : ByteArray) (e f : List FV) : callL R k w A_ref09_shape [.fz (.ag [.int .i64 a, .int .i64 b, .int .i64 c, .str d, .sl e, .sl f])] = ifB (a == 6)
 (ifB ((List.length f : Int) != (List.length e : Int))
 (some ([.fz (.bool false)], []))
 (ifB (a != 5)
 (ifB (a != 6)
 (ifB (decide ((List.length e : Int) > 0))
 (some ([.fz (.bool false)], []))
 (jump w (J_ref09_shape_3_0 R k w a b c d e f a b c d f)))
 (jump w (J_ref09_shape_3_0 R k w a b c d e f a b c d f)))
 (jump w (J_ref09_shape_3_0 R k w a b c d e f a b c d f))))
 (ifB (a != 5)
 (ifB (a != 6)
 (ifB (decide ((List.length e : Int) > 0))
 (some ([.fz (.bool false)], []))
 (jump w (J_ref09_shape_3_0 R k w a b c d e f a b c d f)))
 (jump w (J_ref09_shape_3_0 R k w a b c d e f a b c d f)))
 (jump w (J_ref09_shape_3_0 R k w a b c d e f a b c d f))) := by kernel_rfl
theorem J_ref09_shape_3_0_eq (R : Orc) (k : Nat) (w : Bool) (a b c : Int) (d : ByteArray) (e f : List FV) (g h i : Int) (j : ByteArray) (l : List FV) : J_ref09_shape_3_0 R k w a b c d e f g h i j l = onL (L_ref09_shape_1_0 R k w k 0 a b c d e f g h i j l) (K_ref09_shape_1 R k w) := by kernel_rfl
theorem L_ref09_shape_1_0_eq (R : Orc) (k : Nat) (w : Bool) (n : Nat) (a b c d : Int) (e : ByteArray) (f g : List FV) (h i j : Int) (l : ByteArray) (m : List FV) : L_ref09_shape_1_0 R k w (n + 1) a b c d e f g h i j l m = ifB (decide (a < (List.length g : Int)))
 (when (decide (((0 : Nat) + List.length [(FV.ag [.int .i64 0, .int .i64 0, .int .i64 0, (.str (⟨#[]⟩ : ByteArray)), .sl [], .sl []])]) * 88 ≤ roomy) && decide ((0 : Nat) + List.length [(FV.ag [.int .i64 0, .int .i64 0, .int .i64 0, (.str (⟨#[]⟩ : ByteArray)), .sl [], .sl []])] ≤ roomy)) (L_ref09_shape_1_1 R k w n (IntKind.wrap .i64 (a + 1)) b c d e f g h i j l m [(.ag [.int .i64 0, .int .i64 0, .int .i64 0, (.str (⟨#[]⟩ : ByteArray)), .sl [], .sl []])]))
 (some ((.exit 0), X_ref09_shape_1_0 b c d e f g h i j l m)) := by kernel_rfl
theorem L_ref09_shape_1_1_eq (R : Orc) (k : Nat) (w : Bool) (n : Nat) (a b c d : Int) (e : ByteArray) (f g : List FV) (h i j : Int) (l : ByteArray) (m o : List FV) : L_ref09_shape_1_1 R k w (n + 1) a b c d e f g h i j l m o = ifB (decide (a < (List.length g : Int)))
 (when (decide ((List.length o + List.length [(FV.ag [.int .i64 0, .int .i64 0, .int .i64 0, (.str (⟨#[]⟩ : ByteArray)), .sl [], .sl []])]) * 88 ≤ roomy) && decide (List.length o + List.length [(FV.ag [.int .i64 0, .int .i64 0, .int .i64 0, (.str (⟨#[]⟩ : ByteArray)), .sl [], .sl []])] ≤ roomy)) (L_ref09_shape_1_1 R k w n (IntKind.wrap .i64 (a + 1)) b c d e f g h i j l m (o ++ [(FV.ag [.int .i64 0, .int .i64 0, .int .i64 0, (.str (⟨#[]⟩ : ByteArray)), .sl [], .sl []])])))
 (some ((.exit 0), X_ref09_shape_1_1 b c d e f g h i j l m o)) := by kernel_rfl
theorem X_ref09_shape_1_0_eq (R : Orc) (k : Nat) (w : Bool) (a b c : Int) (d : ByteArray) (e f : List FV) (g h i : Int) (j : ByteArray) (l : List FV) : K_ref09_shape_1 R k w (.exit 0) (X_ref09_shape_1_0 a b c d e f g h i j l) = onR (R N_ref05_Is [.fz (.ag [.int .i64 g, .int .i64 h, .int .i64 i, .str j, .sl [], .sl l]), .fz (.int .i64 0)]) fun r0 => when (List.isEmpty r0.2 && allF [.fz] r0.1) (when (isBool (toF (List.getD r0.1 0 em))) (ifB (!(toBool (toF (List.getD r0.1 0 em))))
 (some ([.fz (.bool false)], []))
 (onL (L_ref09_shape_2_0 R k w k 0 a b c d e f) (K_ref09_shape_2 R k w)))) := by kernel_rfl
theorem X_ref09_shape_1_1_eq (R : Orc) (k : Nat) (w : Bool) (a b c : Int) (d : ByteArray) (e f : List FV) (g h i : Int) (j : ByteArray) (l m : List FV) : K_ref09_shape_1 R k w (.exit 0) (X_ref09_shape_1_1 a b c d e f g h i j l m) = onR (R N_ref05_Is [.fz (.ag [.int .i64 g, .int .i64 h, .int .i64 i, .str j, .sl m, .sl l]), .fz (.int .i64 0)]) fun r1 => when (List.isEmpty r1.2 && allF [.fz] r1.1) (when (isBool (toF (List.getD r1.1 0 em))) (ifB (!(toBool (toF (List.getD r1.1 0 em))))
 (some ([.fz (.bool false)], []))
 (onL (L_ref09_shape_2_0 R k w k 0 a b c d e f) (K_ref09_shape_2 R k w)))) := by kernel_rfl
theorem L_ref09_shape_2_0_eq (R : Orc) (k : Nat) (w : Bool) (n : Nat) (a b c d : Int) (e : ByteArray) (f g : List FV) : L_ref09_shape_2_0 R k w (n + 1) a b c d e f g = ifB (decide (a < (List.length f : Int)))
 (when ((decide (0 ≤ a)) && (decide (a < (List.length f : Int)))) (when (fits 6 true (List.getD f (Int.toNat a) nilp)) (onR (R N_ref09_shape [.fz (List.getD f (Int.toNat a) nilp)]) fun r2 => when (List.isEmpty r2.2 && allF [.fz] r2.1) (when (isBool (toF (List.getD r2.1 0 em))) (ifB (!(toBool (toF (List.getD r2.1 0 em))))
 (some (.ret, X_ref09_shape_2_0 false))
 (L_ref09_shape_2_0 R k w n (IntKind.wrap .i64 (a + 1)) b c d e f g))))))
 (some ((.exit 2), X_ref09_shape_2_1)) := by kernel_rfl
theorem X_ref09_shape_2_0_eq (R : Orc) (k : Nat) (w a : Bool) : K_ref09_shape_2 R k w .ret (X_ref09_shape_2_0 a) = some ([.fz (.bool a)], []) := by kernel_rfl
theorem X_ref09_shape_2_1_eq (R : Orc) (k : Nat) (w : Bool) : K_ref09_shape_2 R k w (.exit 2) (X_ref09_shape_2_1) = some ([.fz (.bool true)], []) := by kernel_rfl
def C_ref09_Strip : ACode := codeOf 53 Try.f53
def A_ref09_Strip_b1 : ACode := C_ref09_Strip.at [1, 1, 1, 1, 1, 1, 0, 1, 0, 0]
def A_ref09_Strip_s1 : ACode := C_ref09_Strip.at [1, 1, 1, 1, 1, 1, 1]
def A_ref09_Strip : AFunc := ⟨1, [(.cell 2 6 true, .fz)], C_ref09_Strip, none⟩
def K_ref09_Strip_1 (R : Orc) (k : Nat) (w : Bool) : AExit → St → Option Ans := (kBlk 0 (kSeq R k w [] A_ref09_Strip_s1 (kFin R [(.cell 2 6 true, .fz)] [])))
def L_ref09_Strip_1_0 (R : Orc) (k : Nat) (w : Bool) (n : Nat) (a b c d e f : Int) (g : ByteArray) (h i : List FV) (j l m : Int) (o : ByteArray) (p q s : Int) (t : ByteArray) := loopL R k w [] [1, 2, 3, 4] [2, 3] A_ref09_Strip_b1 n ⟨[(1, .ptr 4096 0 0), (2, .ptr 4097 0 0), (3, .ptr 4098 0 0), (4, .fz (.int .i64 a))], [(4095, .dead), (4096, .var 8 true (.fz (.ag [.int .i64 b, .int .i64 c, .int .i64 d, .int .i64 e, .int .i64 f, .str g, .sl h, .sl i]))), (4097, .var 6 true (.ag [.fz (.int .i64 j), .fz (.int .i64 l), .fz (.int .i64 m), .fz (.str o), .nils, .nils])), (4098, .var 6 true (.ag [.fz (.int .i64 p), .fz (.int .i64 q), .fz (.int .i64 s), .fz (.str t), .nils, .nils]))]⟩
def L_ref09_Strip_1_1 (R : Orc) (k : Nat) (w : Bool) (n : Nat) (a b c d e f : Int) (g : ByteArray) (h i : List FV) (j l m : Int) (o : ByteArray) (p q s : Int) (t : ByteArray) (u : List FV) := loopL R k w [] [1, 2, 3, 4] [2, 3] A_ref09_Strip_b1 n ⟨[(1, .ptr 4096 0 0), (2, .ptr 4097 0 0), (3, .ptr 4098 0 0), (4, .fz (.int .i64 a))], [(4095, .dead), (4096, .var 8 true (.fz (.ag [.int .i64 b, .int .i64 c, .int .i64 d, .int .i64 e, .int .i64 f, .str g, .sl h, .sl i]))), (4097, .var 6 true (.ag [.fz (.int .i64 j), .fz (.int .i64 l), .fz (.int .i64 m), .fz (.str o), .nils, .nils])), (4098, .var 6 true (.ag [.fz (.int .i64 p), .fz (.int .i64 q), .fz (.int .i64 s), .fz (.str t), .nils, .rw 4099])), (4099, .row 1 false u)]⟩
def L_ref09_Strip_1_2 (R : Orc) (k : Nat) (w : Bool) (n : Nat) (a b c d e f : Int) (g : ByteArray) (h i : List FV) (j l m : Int) (o : ByteArray) (p q s : Int) (t : ByteArray) (u : List FV) := loopL R k w [] [1, 2, 3, 4] [2, 3] A_ref09_Strip_b1 n ⟨[(1, .ptr 4096 0 0), (2, .ptr 4097 0 0), (3, .ptr 4098 0 0), (4, .fz (.int .i64 a))], [(4095, .dead), (4096, .var 8 true (.fz (.ag [.int .i64 b, .int .i64 c, .int .i64 d, .int .i64 e, .int .i64 f, .str g, .sl h, .sl i]))), (4097, .var 6 true (.ag [.fz (.int .i64 j), .fz (.int .i64 l), .fz (.int .i64 m), .fz (.str o), .nils, .nils])), (4098, .var 6 true (.ag [.fz (.int .i64 p), .fz (.int .i64 q), .fz (.int .i64 s), .fz (.str t), .rw 4099, .nils])), (4099, .row 6 true u)]⟩
def X_ref09_Strip_1_0 (a b c : Int) (d : ByteArray) (e f g : Int) (h : ByteArray) : St := ⟨[(2, .ptr 4096 0 0), (3, .ptr 4097 0 0)], [(4095, .dead), (4096, .var 6 true (.ag [.fz (.int .i64 a), .fz (.int .i64 b), .fz (.int .i64 c), .fz (.str d), .nils, .nils])), (4097, .var 6 true (.ag [.fz (.int .i64 e), .fz (.int .i64 f), .fz (.int .i64 g), .fz (.str h), .nils, .nils]))]⟩
def L_ref09_Strip_1_3 (R : Orc) (k : Nat) (w : Bool) (n : Nat) (a b c d e f : Int) (g : ByteArray) (h i : List FV) (j l m : Int) (o : ByteArray) (p q s : Int) (t : ByteArray) (u v : List FV) := loopL R k w [] [1, 2, 3, 4] [2, 3] A_ref09_Strip_b1 n ⟨[(1, .ptr 4096 0 0), (2, .ptr 4097 0 0), (3, .ptr 4098 0 0), (4, .fz (.int .i64 a))], [(4095, .dead), (4096, .var 8 true (.fz (.ag [.int .i64 b, .int .i64 c, .int .i64 d, .int .i64 e, .int .i64 f, .str g, .sl h, .sl i]))), (4097, .var 6 true (.ag [.fz (.int .i64 j), .fz (.int .i64 l), .fz (.int .i64 m), .fz (.str o), .nils, .nils])), (4098, .var 6 true (.ag [.fz (.int .i64 p), .fz (.int .i64 q), .fz (.int .i64 s), .fz (.str t), .rw 4099, .rw 4100])), (4099, .row 6 true u), (4100, .row 1 false v)]⟩
def X_ref09_Strip_1_1 (a b c : Int) (d : ByteArray) (e f g : Int) (h : ByteArray) (i : List FV) : St := ⟨[(2, .ptr 4096 0 0), (3, .ptr 4097 0 0)], [(4095, .dead), (4096, .var 6 true (.ag [.fz (.int .i64 a), .fz (.int .i64 b), .fz (.int .i64 c), .fz (.str d), .nils, .nils])), (4097, .var 6 true (.ag [.fz (.int .i64 e), .fz (.int .i64 f), .fz (.int .i64 g), .fz (.str h), .nils, .rw 4098])), (4098, .row 1 false i)]⟩
def X_ref09_Strip_1_2 (a b c : Int) (d : ByteArray) (e f g : Int) (h : ByteArray) (i : List FV) : St := ⟨[(2, .ptr 4096 0 0), (3, .ptr 4097 0 0)], [(4095, .dead), (4096, .var 6 true (.ag [.fz (.int .i64 a), .fz (.int .i64 b), .fz (.int .i64 c), .fz (.str d), .nils, .nils])), (4097, .var 6 true (.ag [.fz (.int .i64 e), .fz (.int .i64 f), .fz (.int .i64 g), .fz (.str h), .rw 4098, .nils])), (4098, .row 6 true i)]⟩
def X_ref09_Strip_1_3 (a b c : Int) (d : ByteArray) (e f g : Int) (h : ByteArray) (i j : List FV) : St := ⟨[(2, .ptr 4096 0 0), (3, .ptr 4097 0 0)], [(4095, .dead), (4096, .var 6 true (.ag [.fz (.int .i64 a), .fz (.int .i64 b), .fz (.int .i64 c), .fz (.str d), .nils, .nils])), (4097, .var 6 true (.ag [.fz (.int .i64 e), .fz (.int .i64 f), .fz (.int .i64 g), .fz (.str h), .rw 4098, .rw 4099])), (4098, .row 6 true i), (4099, .row 1 false j)]⟩
theorem E_ref09_Strip (R : Orc) (k : Nat) (w : Bool) (a b c d e : Int) (f : ByteArray) (g h : List FV) : callL R k w A_ref09_Strip [.fz (.ag [.int .i64 a, .int .i64 b, .int .i64 c, .int .i64 d, .int .i64 e, .str f, .sl g, .sl h])] = when (List.all h (fits 1 false)) (when (decide (((0 : Nat) + List.length h) * 16 ≤ roomy) && decide ((0 : Nat) + List.length h ≤ roomy)) (ifB (List.isEmpty h)
 (onL (L_ref09_Strip_1_0 R k w k 0 a b c d e f g h 0 0 0 (⟨#[]⟩ : ByteArray) c d e f) (K_ref09_Strip_1 R k w))
 (onL (L_ref09_Strip_1_1 R k w k 0 a b c d e f g h 0 0 0 (⟨#[]⟩ : ByteArray) c d e f h) (K_ref09_Strip_1 R k w)))) := by kernel_rfl
theorem L_ref09_Strip_1_0_eq (R : Orc) (k : Nat) (w : Bool) (n : Nat) (a b c d e f : Int) (g : ByteArray) (h i : List FV) (j l m : Int) (o : ByteArray) (p q s : Int) (t : ByteArray) : L_ref09_Strip_1_0 R k w (n + 1) a b c d e f g h i j l m o p q s t = ifB (decide (a < (List.length h : Int)))
 (when ((decide (0 ≤ a)) && (decide (a < (List.length h : Int)))) (when (fits 8 true (List.getD h (Int.toNat a) nilp)) (onR (R N_ref09_Strip [.fz (List.getD h (Int.toNat a) nilp)]) fun r0 => when (List.isEmpty r0.2 && allF [.fz] r0.1) (when (((fits 6 true (toF (List.getD r0.1 0 em))) && true) && true) (when (decide (((0 : Nat) + List.length [(toF (List.getD r0.1 0 em))]) * 88 ≤ roomy) && decide ((0 : Nat) + List.length [(toF (List.getD r0.1 0 em))] ≤ roomy)) (L_ref09_Strip_1_2 R k w n (IntKind.wrap .i64 (a + 1)) b c d e f g h i j l m o p q s t [(toF (List.getD r0.1 0 em))]))))))
 (some ((.exit 0), X_ref09_Strip_1_0 j l m o p q s t)) := by kernel_rfl
theorem L_ref09_Strip_1_1_eq (R : Orc) (k : Nat) (w : Bool) (n : Nat) (a b c d e f : Int) (g : ByteArray) (h i : List FV) (j l m : Int) (o : ByteArray) (p q s : Int) (t : ByteArray) (u : List FV) : L_ref09_Strip_1_1 R k w (n + 1) a b c d e f g h i j l m o p q s t u = ifB (decide (a < (List.length h : Int)))
 (when ((decide (0 ≤ a)) && (decide (a < (List.length h : Int)))) (when (fits 8 true (List.getD h (Int.toNat a) nilp)) (onR (R N_ref09_Strip [.fz (List.getD h (Int.toNat a) nilp)]) fun r1 => when (List.isEmpty r1.2 && allF [.fz] r1.1) (when (((fits 6 true (toF (List.getD r1.1 0 em))) && true) && true) (when (decide (((0 : Nat) + List.length [(toF (List.getD r1.1 0 em))]) * 88 ≤ roomy) && decide ((0 : Nat) + List.length [(toF (List.getD r1.1 0 em))] ≤ roomy)) (L_ref09_Strip_1_3 R k w n (IntKind.wrap .i64 (a + 1)) b c d e f g h i j l m o p q s t [(toF (List.getD r1.1 0 em))] u))))))
 (some ((.exit 0), X_ref09_Strip_1_1 j l m o p q s t u)) := by kernel_rfl
theorem L_ref09_Strip_1_2_eq (R : Orc) (k : Nat) (w : Bool) (n : Nat) (a b c d e f : Int) (g : ByteArray) (h i : List FV) (j l m : Int) (o : ByteArray) (p q s : Int) (t : ByteArray) (u : List FV) : L_ref09_Strip_1_2 R k w (n + 1) a b c d e f g h i j l m o p q s t u = ifB (decide (a < (List.length h : Int)))
 (when ((decide (0 ≤ a)) && (decide (a < (List.length h : Int)))) (when (fits 8 true (List.getD h (Int.toNat a) nilp)) (onR (R N_ref09_Strip [.fz (List.getD h (Int.toNat a) nilp)]) fun r2 => when (List.isEmpty r2.2 && allF [.fz] r2.1) (when (((fits 6 true (toF (List.getD r2.1 0 em))) && true) && true) (when (decide ((List.length u + List.length [(toF (List.getD r2.1 0 em))]) * 88 ≤ roomy) && decide (List.length u + List.length [(toF (List.getD r2.1 0 em))] ≤ roomy)) (L_ref09_Strip_1_2 R k w n (IntKind.wrap .i64 (a + 1)) b c d e f g h i j l m o p q s t (u ++ [(toF (List.getD r2.1 0 em))])))))))
 (some ((.exit 0), X_ref09_Strip_1_2 j l m o p q s t u)) := by kernel_rfl
theorem X_ref09_Strip_1_0_eq (R : Orc) (k : Nat) (w : Bool) (a b c : Int) (d : ByteArray) (e f g : Int) (h : ByteArray) : K_ref09_Strip_1 R k w (.exit 0) (X_ref09_Strip_1_0 a b c d e f g h) = some ([.fz (.ag [.int .i64 e, .int .i64 f, .int .i64 g, .str h, .sl [], .sl []])], []) := by kernel_rfl
theorem L_ref09_Strip_1_3_eq (R : Orc) (k : Nat) (w : Bool) (n : Nat) (a b c d e f : Int) (g : ByteArray) (h i : List FV) (j l m : Int) (o : ByteArray) (p q s : Int) (t : ByteArray) (u v : List FV) : L_ref09_Strip_1_3 R k w (n + 1) a b c d e f g h i j l m o p q s t u v = ifB (decide (a < (List.length h : Int)))
 (when ((decide (0 ≤ a)) && (decide (a < (List.length h : Int)))) (when (fits 8 true (List.getD h (Int.toNat a) nilp)) (onR (R N_ref09_Strip [.fz (List.getD h (Int.toNat a) nilp)]) fun r3 => when (List.isEmpty r3.2 && allF [.fz] r3.1) (when (((fits 6 true (toF (List.getD r3.1 0 em))) && true) && true) (when (decide ((List.length u + List.length [(toF (List.getD r3.1 0 em))]) * 88 ≤ roomy) && decide (List.length u + List.length [(toF (List.getD r3.1 0 em))] ≤ roomy)) (L_ref09_Strip_1_3 R k w n (IntKind.wrap .i64 (a + 1)) b c d e f g h i j l m o p q s t (u ++ [(toF (List.getD r3.1 0 em))]) v))))))
 (some ((.exit 0), X_ref09_Strip_1_3 j l m o p q s t u v)) := by kernel_rfl
theorem X_ref09_Strip_1_1_eq (R : Orc) (k : Nat) (w : Bool) (a b c : Int) (d : ByteArray) (e f g : Int) (h : ByteArray) (i : List FV) : K_ref09_Strip_1 R k w (.exit 0) (X_ref09_Strip_1_1 a b c d e f g h i) = some ([.fz (.ag [.int .i64 e, .int .i64 f, .int .i64 g, .str h, .sl [], .sl i])], []) := by kernel_rfl
theorem X_ref09_Strip_1_2_eq (R : Orc) (k : Nat) (w : Bool) (a b c : Int) (d : ByteArray) (e f g : Int) (h : ByteArray) (i : List FV) : K_ref09_Strip_1 R k w (.exit 0) (X_ref09_Strip_1_2 a b c d e f g h i) = some ([.fz (.ag [.int .i64 e, .int .i64 f, .int .i64 g, .str h, .sl i, .sl []])], []) := by kernel_rfl
theorem X_ref09_Strip_1_3_eq (R : Orc) (k : Nat) (w : Bool) (a b c : Int) (d : ByteArray) (e f g : Int) (h : ByteArray) (i j : List FV) : K_ref09_Strip_1 R k w (.exit 0) (X_ref09_Strip_1_3 a b c d e f g h i j) = some ([.fz (.ag [.int .i64 e, .int .i64 f, .int .i64 g, .str h, .sl i, .sl j])], []) := by kernel_rfl
def C_ref03_Put : ACode := codeOf 54 Try.f54
def A_ref03_Put : AFunc := ⟨1, [(.tmp 2, .fz)], C_ref03_Put, none⟩
theorem E_ref03_Put (R : Orc) (k : Nat) (w : Bool) (a : Int) : callL R k w A_ref03_Put [.fz (.int .i64 a)] = ifB (decide (a < 128))
 (some ([.fz (.sl [(.int .u8 (IntKind.wrap .u8 a))])], []))
 (ifB (decide (a < 2048))
 (some ([.fz (.sl [(.int .u8 (IntKind.wrap .u8 (IntKind.wrap .i64 (192 + (IntKind.wrap .i64 (Int.tdiv a 64)))))), (.int .u8 (IntKind.wrap .u8 (IntKind.wrap .i64 (128 + (Int.tmod a 64)))))])], []))
 (ifB (decide (a < 65536))
 (some ([.fz (.sl [(.int .u8 (IntKind.wrap .u8 (IntKind.wrap .i64 (224 + (IntKind.wrap .i64 (Int.tdiv a 4096)))))), (.int .u8 (IntKind.wrap .u8 (IntKind.wrap .i64 (128 + (Int.tmod (IntKind.wrap .i64 (Int.tdiv a 64)) 64))))), (.int .u8 (IntKind.wrap .u8 (IntKind.wrap .i64 (128 + (Int.tmod a 64)))))])], []))
 (some ([.fz (.sl [(.int .u8 (IntKind.wrap .u8 (IntKind.wrap .i64 (240 + (IntKind.wrap .i64 (Int.tdiv a 262144)))))), (.int .u8 (IntKind.wrap .u8 (IntKind.wrap .i64 (128 + (Int.tmod (IntKind.wrap .i64 (Int.tdiv a 4096)) 64))))), (.int .u8 (IntKind.wrap .u8 (IntKind.wrap .i64 (128 + (Int.tmod (IntKind.wrap .i64 (Int.tdiv a 64)) 64))))), (.int .u8 (IntKind.wrap .u8 (IntKind.wrap .i64 (128 + (Int.tmod a 64)))))])], [])))) := by kernel_rfl
def C_ref03_Quote : ACode := codeOf 55 Try.f55
def A_ref03_Quote_j1 : ACode := C_ref03_Quote.at [1, 1, 1, 0, 1, 0, 0, 1, 0, 0, 1, 1, 1, 0]
def A_ref03_Quote_s2 : ACode := C_ref03_Quote.at [1, 1, 1, 0, 1, 0, 0, 1, 1]
def A_ref03_Quote_b1 : ACode := C_ref03_Quote.at [1, 1, 1, 0, 1, 0, 0]
def A_ref03_Quote_s3 : ACode := C_ref03_Quote.at [1, 1, 1, 1]
def A_ref03_Quote : AFunc := ⟨1, [(.tmp 2, .fz)], C_ref03_Quote, none⟩
def K_ref03_Quote_1 (R : Orc) (k : Nat) (w : Bool) : AExit → St → Option Ans := (kBlk 0 (kSeq R k w [] A_ref03_Quote_s3 (kFin R [(.tmp 2, .fz)] [])))
def L_ref03_Quote_1_0 (R : Orc) (k : Nat) (w : Bool) (n : Nat) (a : List FV) (b : ByteArray) (c : Int) (d : List FV) := loopL R k w [] [0, 3, 4, 5] [4] A_ref03_Quote_b1 n ⟨[(0, .fz (.sl a)), (3, .fz (.str b)), (4, .rw 4096), (5, .fz (.int .i64 c))], [(4095, .dead), (4096, .row 1 false d)]⟩
def J_ref03_Quote_1_0 (R : Orc) (k : Nat) (w : Bool) (n : Nat) (a : List FV) (b : ByteArray) (c d : Int) (e : ByteArray) (f : List FV) := execL R k w [] A_ref03_Quote_j1 (AExit × St) ⟨[(0, .fz (.sl a)), (3, .fz (.str b)), (4, .rw 4096), (5, .fz (.int .i64 c)), (6, .fz (.int .i64 d)), (7, .fz (.str e))], [(4095, .dead), (4096, .row 1 false f)]⟩ (kBlk 1 (kSeq R k w [] A_ref03_Quote_s2 (kLoop R k w [] [0, 3, 4, 5] [4] A_ref03_Quote_b1 n)))
def X_ref03_Quote_1_0 (a : List FV) : St := ⟨[(4, .rw 4096)], [(4095, .dead), (4096, .row 1 false a)]⟩
theorem E_ref03_Quote (R : Orc) (k : Nat) (w : Bool) (a : List FV) : callL R k w A_ref03_Quote [.fz (.sl a)] = onL (L_ref03_Quote_1_0 R k w k a (⟨#[48, 49, 50, 51, 52, 53, 54, 55, 56, 57, 97, 98, 99, 100, 101, 102]⟩ : ByteArray) 0 [.int .u8 34]) (K_ref03_Quote_1 R k w) := by kernel_rfl
theorem L_ref03_Quote_1_0_eq (R : Orc) (k : Nat) (w : Bool) (n : Nat) (a : List FV) (b : ByteArray) (c : Int) (d : List FV) : L_ref03_Quote_1_0 R k w (n + 1) a b c d = ifB (decide (c < (List.length a : Int)))
 (when ((decide (0 ≤ c)) && (decide (c < (List.length a : Int)))) (when (fits 1 false (List.getD a (Int.toNat c) nilp)) (when (isInt .i64 (List.getD a (Int.toNat c) nilp)) (ifB ((toInt (List.getD a (Int.toNat c) nilp)) == 34)
 (jump w (J_ref03_Quote_1_0 R k w n a b c (toInt (List.getD a (Int.toNat c) nilp)) (⟨#[92, 34]⟩ : ByteArray) d))
 (ifB ((toInt (List.getD a (Int.toNat c) nilp)) == 92)
 (jump w (J_ref03_Quote_1_0 R k w n a b c (toInt (List.getD a (Int.toNat c) nilp)) (⟨#[92, 92]⟩ : ByteArray) d))
 (ifB ((toInt (List.getD a (Int.toNat c) nilp)) == 8)
 (jump w (J_ref03_Quote_1_0 R k w n a b c (toInt (List.getD a (Int.toNat c) nilp)) (⟨#[92, 98]⟩ : ByteArray) d))
 (ifB ((toInt (List.getD a (Int.toNat c) nilp)) == 9)
 (jump w (J_ref03_Quote_1_0 R k w n a b c (toInt (List.getD a (Int.toNat c) nilp)) (⟨#[92, 116]⟩ : ByteArray) d))
 (ifB ((toInt (List.getD a (Int.toNat c) nilp)) == 10)
 (jump w (J_ref03_Quote_1_0 R k w n a b c (toInt (List.getD a (Int.toNat c) nilp)) (⟨#[92, 110]⟩ : ByteArray) d))
 (ifB ((toInt (List.getD a (Int.toNat c) nilp)) == 12)
 (jump w (J_ref03_Quote_1_0 R k w n a b c (toInt (List.getD a (Int.toNat c) nilp)) (⟨#[92, 102]⟩ : ByteArray) d))
 (ifB ((toInt (List.getD a (Int.toNat c) nilp)) == 13)
 (jump w (J_ref03_Quote_1_0 R k w n a b c (toInt (List.getD a (Int.toNat c) nilp)) (⟨#[92, 114]⟩ : ByteArray) d))
 (jump w (J_ref03_Quote_1_0 R k w n a b c (toInt (List.getD a (Int.toNat c) nilp)) (⟨#[]⟩ : ByteArray) d))))))))))))
 (some ((.exit 0), X_ref03_Quote_1_0 d)) := by kernel_rfl
theorem J_ref03_Quote_1_0_eq (R : Orc) (k : Nat) (w : Bool) (n : Nat) (a : List FV) (c : ByteArray) (d e : Int) (f : ByteArray) (g : List FV) : J_ref03_Quote_1_0 R k w n a c d e f g = ifB (!(ByteArray.toList f == ByteArray.toList (⟨#[]⟩ : ByteArray)))
 (when (decide ((List.length g + List.length (List.map (fun b => FV.int .u8 b.toNat) f.data.toList)) * 1 ≤ roomy) && decide (List.length g + List.length (List.map (fun b => FV.int .u8 b.toNat) f.data.toList) ≤ roomy)) (L_ref03_Quote_1_0 R k w n a c (IntKind.wrap .i64 (d + 1)) (g ++ (List.map (fun b => FV.int .u8 b.toNat) f.data.toList))))
 (ifB (decide (e < 32))
 (when ((decide (0 ≤ (IntKind.wrap .i64 (Int.tdiv e 16)))) && (decide ((IntKind.wrap .i64 (Int.tdiv e 16)) < (ByteArray.size c : Int)))) (when ((decide (0 ≤ (Int.tmod e 16))) && (decide ((Int.tmod e 16) < (ByteArray.size c : Int)))) (when (decide ((List.length g + List.length [FV.int .u8 92, .int .u8 117, .int .u8 48, .int .u8 48, (.int .u8 (((Array.getD (ByteArray.data c) (Int.toNat (IntKind.wrap .i64 (Int.tdiv e 16))) 0).toNat : Nat) : Int)), (.int .u8 (((Array.getD (ByteArray.data c) (Int.toNat (Int.tmod e 16)) 0).toNat : Nat) : Int))]) * 1 ≤ roomy) && decide (List.length g + List.length [FV.int .u8 92, .int .u8 117, .int .u8 48, .int .u8 48, (.int .u8 (((Array.getD (ByteArray.data c) (Int.toNat (IntKind.wrap .i64 (Int.tdiv e 16))) 0).toNat : Nat) : Int)), (.int .u8 (((Array.getD (ByteArray.data c) (Int.toNat (Int.tmod e 16)) 0).toNat : Nat) : Int))] ≤ roomy)) (L_ref03_Quote_1_0 R k w n a c (IntKind.wrap .i64 (d + 1)) (g ++ [FV.int .u8 92, .int .u8 117, .int .u8 48, .int .u8 48, (.int .u8 (((Array.getD (ByteArray.data c) (Int.toNat (IntKind.wrap .i64 (Int.tdiv e 16))) 0).toNat : Nat) : Int)), (.int .u8 (((Array.getD (ByteArray.data c) (Int.toNat (Int.tmod e 16)) 0).toNat : Nat) : Int))])))))
 (onR (R N_ref03_Put [.fz (.int .i64 e)]) fun r0 => when (List.isEmpty r0.2 && allF [.fz] r0.1) (when ((isSl (toF (List.getD r0.1 0 em))) && (List.all (toSl (toF (List.getD r0.1 0 em))) (fits 1 false))) (when (decide ((List.length g + List.length (toSl (toF (List.getD r0.1 0 em)))) * 1 ≤ roomy) && decide (List.length g + List.length (toSl (toF (List.getD r0.1 0 em))) ≤ roomy)) (L_ref03_Quote_1_0 R k w n a c (IntKind.wrap .i64 (d + 1)) (g ++ (toSl (toF (List.getD r0.1 0 em))))))))) := by kernel_rfl
theorem X_ref03_Quote_1_0_eq (R : Orc) (k : Nat) (w : Bool) (a : List FV) : K_ref03_Quote_1 R k w (.exit 0) (X_ref03_Quote_1_0 a) = when (decide ((List.length a + List.length [FV.int .u8 34]) * 1 ≤ roomy) && decide (List.length a + List.length [FV.int .u8 34] ≤ roomy)) (when (List.all (a ++ [FV.int .u8 34]) (isInt .u8)) (some ([.fz (.str (⟨(List.map (fun e => UInt8.ofNat (toInt e).toNat) (a ++ [FV.int .u8 34])).toArray⟩ : ByteArray))], []))) := by kernel_rfl
def C_ref04_Is : ACode := codeOf 56 Try.f56
def A_ref04_Is_j1 : ACode := C_ref04_Is.at [1, 1, 0]
def A_ref04_Is : AFunc := ⟨1, [(.tmp 2, .fz)], C_ref04_Is, none⟩
def J_ref04_Is_1_0 (R : Orc) (k : Nat) (w : Bool) (a b : Int) := execL R k w [] A_ref04_Is_j1 Ans ⟨[(1, .ptr 4096 0 0)], [(4095, .dead), (4096, .var 2 true (.fz (.ag [.int .i64 a, .int .i64 b])))]⟩ (kFin R [(.tmp 2, .fz)] [])
theorem E_ref04_Is (R : Orc) (k : Nat) (w : Bool) (a b : Int) : callL R k w A_ref04_Is [.fz (.ag [.int .i64 a, .int .i64 b])] = ifB (decide (b < 0))
 (some ([.fz (.bool false)], []))
 (ifB (decide (b > 9))
 (some ([.fz (.bool false)], []))
 (ifB (decide (a ≥ 1000000000000000))
 (some ([.fz (.bool false)], []))
 (ifB (decide (a ≤ (-1000000000000000)))
 (some ([.fz (.bool false)], []))
 (jump w (J_ref04_Is_1_0 R k w a b))))) := by kernel_rfl
theorem J_ref04_Is_1_0_eq (R : Orc) (k : Nat) (w : Bool) (a b : Int) : J_ref04_Is_1_0 R k w a b = ifB (b == 0)
 (some ([.fz (.bool true)], []))
 (some ([.fz (.bool ((Int.tmod a 10) != 0))], [])) := by kernel_rfl
def C_ref04_Of : ACode := codeOf 57 Try.f57
def A_ref04_Of_j1 : ACode := C_ref04_Of.at [1, 1, 1, 0, 0, 0, 1, 0, 1, 1, 0]
def A_ref04_Of_b1 : ACode := C_ref04_Of.at [1, 1, 1, 0, 0, 0]
def A_ref04_Of_s2 : ACode := C_ref04_Of.at [1, 1, 1, 1]
def A_ref04_Of : AFunc := ⟨1, [(.cell 2 2 true, .fz)], C_ref04_Of, none⟩
def K_ref04_Of_1 (R : Orc) (k : Nat) (w : Bool) : AExit → St → Option Ans := (kBlk 0 (kSeq R k w [] A_ref04_Of_s2 (kFin R [(.cell 2 2 true, .fz)] [])))
def L_ref04_Of_1_0 (R : Orc) (k : Nat) (w : Bool) (n : Nat) (a : Int) (b c : Bool) := loopL R k w [] [0, 2, 3] [2, 3] A_ref04_Of_b1 n ⟨[(0, .fz (.int .i64 a)), (2, .ptr 4096 0 0), (3, .ptr 4097 0 0)], [(4095, .dead), (4096, .var 2 true (.ag [.fz (.bool b), .nils])), (4097, .var 2 true (.ag [.fz (.bool c), .nils]))]⟩
def J_ref04_Of_1_0 (R : Orc) (k : Nat) (w : Bool) (n : Nat) (a b : Int) (c d : Bool) := execL R k w [] A_ref04_Of_j1 (AExit × St) ⟨[(0, .fz (.int .i64 a)), (2, .ptr 4096 0 0), (3, .ptr 4097 0 0), (4, .fz (.int .i64 b))], [(4095, .dead), (4096, .var 2 true (.ag [.fz (.bool c), .nils])), (4097, .var 2 true (.ag [.fz (.bool d), .nils]))]⟩ (kBlk 1 (kLoop R k w [] [0, 2, 3] [2, 3] A_ref04_Of_b1 n))
def X_ref04_Of_1_0 (a b : Bool) : St := ⟨[(2, .ptr 4096 0 0), (3, .ptr 4097 0 0)], [(4095, .dead), (4096, .var 2 true (.ag [.fz (.bool a), .nils])), (4097, .var 2 true (.ag [.fz (.bool b), .nils]))]⟩
def L_ref04_Of_1_1 (R : Orc) (k : Nat) (w : Bool) (n : Nat) (a : Int) (b c : Bool) (d : List FV) := loopL R k w [] [0, 2, 3] [2, 3] A_ref04_Of_b1 n ⟨[(0, .fz (.int .i64 a)), (2, .ptr 4096 0 0), (3, .ptr 4097 0 0)], [(4095, .dead), (4096, .var 2 true (.ag [.fz (.bool b), .nils])), (4097, .var 2 true (.ag [.fz (.bool c), .rw 4098])), (4098, .row 1 false d)]⟩
def J_ref04_Of_1_1 (R : Orc) (k : Nat) (w : Bool) (n : Nat) (a b : Int) (c d : Bool) (e : List FV) := execL R k w [] A_ref04_Of_j1 (AExit × St) ⟨[(0, .fz (.int .i64 a)), (2, .ptr 4096 0 0), (3, .ptr 4097 0 0), (4, .fz (.int .i64 b))], [(4095, .dead), (4096, .var 2 true (.ag [.fz (.bool c), .nils])), (4097, .var 2 true (.ag [.fz (.bool d), .rw 4098])), (4098, .row 1 false e)]⟩ (kBlk 1 (kLoop R k w [] [0, 2, 3] [2, 3] A_ref04_Of_b1 n))
def X_ref04_Of_1_1 (a b : Bool) (c : List FV) : St := ⟨[(2, .ptr 4096 0 0), (3, .ptr 4097 0 0)], [(4095, .dead), (4096, .var 2 true (.ag [.fz (.bool a), .nils])), (4097, .var 2 true (.ag [.fz (.bool b), .rw 4098])), (4098, .row 1 false c)]⟩
theorem E_ref04_Of (R : Orc) (k : Nat) (w : Bool) (a : Int) : callL R k w A_ref04_Of [.fz (.int .i64 a)] = onL (L_ref04_Of_1_0 R k w k a false (decide (a < 0))) (K_ref04_Of_1 R k w) := by kernel_rfl
theorem L_ref04_Of_1_0_eq (R : Orc) (k : Nat) (w : Bool) (n : Nat) (a : Int) (b c : Bool) : L_ref04_Of_1_0 R k w (n + 1) a b c = ifB (a != 0)
 (ifB (decide ((Int.tmod a 10) < 0))
 (jump w (J_ref04_Of_1_0 R k w n a (IntKind.wrap .i64 (0 - (Int.tmod a 10))) b c))
 (jump w (J_ref04_Of_1_0 R k w n a (Int.tmod a 10) b c)))
 (some ((.exit 0), X_ref04_Of_1_0 b c)) := by kernel_rfl
theorem J_ref04_Of_1_0_eq (R : Orc) (k : Nat) (w : Bool) (n : Nat) (a b : Int) (c d : Bool) : J_ref04_Of_1_0 R k w n a b c d = when (decide (((0 : Nat) + List.length [FV.int .i64 b]) * 8 ≤ roomy) && decide ((0 : Nat) + List.length [FV.int .i64 b] ≤ roomy)) (L_ref04_Of_1_1 R k w n (IntKind.wrap .i64 (Int.tdiv a 10)) c d [.int .i64 b]) := by kernel_rfl
theorem X_ref04_Of_1_0_eq (R : Orc) (k : Nat) (w a b : Bool) : K_ref04_Of_1 R k w (.exit 0) (X_ref04_Of_1_0 a b) = some ([.fz (.ag [.bool b, .sl []])], []) := by kernel_rfl
theorem L_ref04_Of_1_1_eq (R : Orc) (k : Nat) (w : Bool) (n : Nat) (a : Int) (b c : Bool) (d : List FV) : L_ref04_Of_1_1 R k w (n + 1) a b c d = ifB (a != 0)
 (ifB (decide ((Int.tmod a 10) < 0))
 (jump w (J_ref04_Of_1_1 R k w n a (IntKind.wrap .i64 (0 - (Int.tmod a 10))) b c d))
 (jump w (J_ref04_Of_1_1 R k w n a (Int.tmod a 10) b c d)))
 (some ((.exit 0), X_ref04_Of_1_1 b c d)) := by kernel_rfl
theorem J_ref04_Of_1_1_eq (R : Orc) (k : Nat) (w : Bool) (n : Nat) (a b : Int) (c d : Bool) (e : List FV) : J_ref04_Of_1_1 R k w n a b c d e = when (decide ((List.length e + List.length [FV.int .i64 b]) * 8 ≤ roomy) && decide (List.length e + List.length [FV.int .i64 b] ≤ roomy)) (L_ref04_Of_1_1 R k w n (IntKind.wrap .i64 (Int.tdiv a 10)) c d (e ++ [FV.int .i64 b])) := by kernel_rfl
theorem X_ref04_Of_1_1_eq (R : Orc) (k : Nat) (w a b : Bool) (c : List FV) : K_ref04_Of_1 R k w (.exit 0) (X_ref04_Of_1_1 a b c) = some ([.fz (.ag [.bool b, .sl c])], []) := by kernel_rfl
def C_ref12_text : ACode := codeOf 58 Try.f58
def A_ref12_text : AFunc := ⟨3, [(.tmp 6, .fz)], C_ref12_text, none⟩
theorem E_ref12_text (R : Orc) (k : Nat) (w : Bool) (a : List FV) (b c d e f : Int) (g : ByteArray) (h i : List FV) (j : Int) : callL R k w A_ref12_text [.fz (.sl a), .fz (.ag [.int .i64 b, .int .i64 c, .int .i64 d, .int .i64 e, .int .i64 f, .str g, .sl h, .sl i]), .fz (.int .i64 j)] = ifB (d == 8)
 (some ([.fz (.str (⟨#[123, 34, 35, 34, 58, 110, 117, 108, 108, 125]⟩ : ByteArray))], []))
 (ifB (b == j)
 (onR (R N_ref12_body [.fz (.sl a), .fz (.ag [.int .i64 b, .int .i64 c, .int .i64 d, .int .i64 e, .int .i64 f, .str g, .sl h, .sl i])]) fun r0 => when (List.isEmpty r0.2 && allF [.fz] r0.1) (when (isStr (toF (List.getD r0.1 0 em))) (some ([.fz (.str (toStr (toF (List.getD r0.1 0 em))))], []))))
 (when ((decide (0 ≤ b)) && (decide (b < (List.length a : Int)))) (when (fits 1 false (List.getD a (Int.toNat b) nilp)) (when (isStr (List.getD a (Int.toNat b) nilp)) (onR (R N_ref12_quote [.fz (.str (toStr (List.getD a (Int.toNat b) nilp)))]) fun r1 => when (List.isEmpty r1.2 && allF [.fz] r1.1) (when (isStr (toF (List.getD r1.1 0 em))) (when (decide (ByteArray.size (⟨#[123, 34, 35, 34, 58]⟩ : ByteArray) + ByteArray.size (toStr (toF (List.getD r1.1 0 em))) ≤ 2 ^ 62)) (when (decide (ByteArray.size ((⟨#[123, 34, 35, 34, 58]⟩ : ByteArray) ++ (toStr (toF (List.getD r1.1 0 em)))) + ByteArray.size (⟨#[44, 34, 61, 34, 58]⟩ : ByteArray) ≤ 2 ^ 62)) (onR (R N_ref12_body [.fz (.sl a), .fz (.ag [.int .i64 b, .int .i64 c, .int .i64 d, .int .i64 e, .int .i64 f, .str g, .sl h, .sl i])]) fun r2 => when (List.isEmpty r2.2 && allF [.fz] r2.1) (when (isStr (toF (List.getD r2.1 0 em))) (when (decide (ByteArray.size (((⟨#[123, 34, 35, 34, 58]⟩ : ByteArray) ++ (toStr (toF (List.getD r1.1 0 em)))) ++ (⟨#[44, 34, 61, 34, 58]⟩ : ByteArray)) + ByteArray.size (toStr (toF (List.getD r2.1 0 em))) ≤ 2 ^ 62)) (when (decide (ByteArray.size ((((⟨#[123, 34, 35, 34, 58]⟩ : ByteArray) ++ (toStr (toF (List.getD r1.1 0 em)))) ++ (⟨#[44, 34, 61, 34, 58]⟩ : ByteArray)) ++ (toStr (toF (List.getD r2.1 0 em)))) + ByteArray.size (⟨#[125]⟩ : ByteArray) ≤ 2 ^ 62)) (some ([.fz (.str (((((⟨#[123, 34, 35, 34, 58]⟩ : ByteArray) ++ (toStr (toF (List.getD r1.1 0 em)))) ++ (⟨#[44, 34, 61, 34, 58]⟩ : ByteArray)) ++ (toStr (toF (List.getD r2.1 0 em)))) ++ (⟨#[125]⟩ : ByteArray)))], [])))))))))))))) := by kernel_rfl
def C_ref11_Erase : ACode := codeOf 59 Try.f59
def A_ref11_Erase : AFunc := ⟨3, [(.cell 6 8 true, .fz)], C_ref11_Erase, none⟩
theorem E_ref11_Erase (R : Orc) (k : Nat) (w : Bool) (a : List FV) (b c d e f : Int) (g : ByteArray) (h i : List FV) (j : Int) : callL R k w A_ref11_Erase [.fz (.sl a), .fz (.ag [.int .i64 b, .int .i64 c, .int .i64 d, .int .i64 e, .int .i64 f, .str g, .sl h, .sl i]), .fz (.int .i64 j)] = onR (R N_ref09_Bottom [.fz (.sl a)]) fun r0 => when (List.isEmpty r0.2 && allF [.fz] r0.1) (when (isInt .i64 (toF (List.getD r0.1 0 em))) (onR (R N_ref11_At [.fz (.sl a), .fz (.ag [.int .i64 b, .int .i64 c, .int .i64 d, .int .i64 e, .int .i64 f, .str g, .sl h, .sl i]), .fz (.int .i64 (toInt (toF (List.getD r0.1 0 em)))), .fz (.int .i64 j)]) fun r1 => when (List.isEmpty r1.2 && allF [.fz] r1.1) (when (fits 8 true (toF (List.getD r1.1 0 em))) (some ([.fz (toF (List.getD r1.1 0 em))], []))))) := by kernel_rfl
def C_ref09_Bottom : ACode := codeOf 60 Try.f60
def A_ref09_Bottom_b1 : ACode := C_ref09_Bottom.at [1, 0, 1, 0, 0, 1, 0, 0, 1, 0, 1, 0, 0]
def A_ref09_Bottom_s1 : ACode := C_ref09_Bottom.at [1, 0, 1, 0, 0, 1, 0, 0, 1, 1]
def A_ref09_Bottom_s2 : ACode := C_ref09_Bottom.at [1, 0, 1, 0, 0, 1, 1]
def A_ref09_Bottom_b2 : ACode := C_ref09_Bottom.at [1, 0, 1, 0, 0]
def A_ref09_Bottom_s3 : ACode := C_ref09_Bottom.at [1, 1]
def A_ref09_Bottom : AFunc := ⟨1, [(.tmp 2, .fz)], C_ref09_Bottom, none⟩
def K_ref09_Bottom_2 (R : Orc) (k : Nat) (w : Bool) : AExit → St → Option Ans := (kBlk 0 (kSeq R k w [] A_ref09_Bottom_s3 (kFin R [(.tmp 2, .fz)] [])))
def L_ref09_Bottom_2_0 (R : Orc) (k : Nat) (w : Bool) (n : Nat) (a : List FV) (b : Int) := loopL R k w [] [0, 3] [2] A_ref09_Bottom_b2 n ⟨[(0, .fz (.sl a)), (3, .fz (.int .i64 b))], [(4095, .dead)]⟩
def K_ref09_Bottom_1 (R : Orc) (k : Nat) (w : Bool) (n : Nat) : AExit → St → Option (AExit × St) := (kBlk 2 (kSeq R k w [] A_ref09_Bottom_s1 (kBlk 1 (kSeq R k w [] A_ref09_Bottom_s2 (kLoop R k w [] [0, 3] [2] A_ref09_Bottom_b2 n)))))
def L_ref09_Bottom_1_0 (R : Orc) (k : Nat) (w : Bool) (n : Nat) (a : List FV) (b : Int) (c : Bool) (d : Int) := loopL R k w [] [0, 3, 4, 5] [0, 3, 4] A_ref09_Bottom_b1 n ⟨[(0, .fz (.sl a)), (3, .fz (.int .i64 b)), (4, .fz (.bool c)), (5, .fz (.int .i64 d))], [(4095, .dead)]⟩
def X_ref09_Bottom_2_0 : St := ⟨[], [(4095, .dead)]⟩
def X_ref09_Bottom_1_0 (a : List FV) (b : Int) (c : Bool) : St := ⟨[(0, .fz (.sl a)), (3, .fz (.int .i64 b)), (4, .fz (.bool c))], [(4095, .dead)]⟩
def X_ref09_Bottom_2_1 (a : Int) : St := ⟨[(2, .fz (.int .i64 a))], [(4095, .dead)]⟩
theorem E_ref09_Bottom (R : Orc) (k : Nat) (w : Bool) (a : List FV) : callL R k w A_ref09_Bottom [.fz (.sl a)] = onL (L_ref09_Bottom_2_0 R k w k a 0) (K_ref09_Bottom_2 R k w) := by kernel_rfl
theorem L_ref09_Bottom_2_0_eq (R : Orc) (k : Nat) (w : Bool) (n : Nat) (a : List FV) (b : Int) : L_ref09_Bottom_2_0 R k w (n + 1) a b = ifB (decide (b < (List.length a : Int)))
 (onL (L_ref09_Bottom_1_0 R k w k a b true 0) (K_ref09_Bottom_1 R k w n))
 (some ((.exit 0), X_ref09_Bottom_2_0)) := by kernel_rfl
theorem L_ref09_Bottom_1_0_eq (R : Orc) (k : Nat) (w : Bool) (n : Nat) (a : List FV) (b : Int) (c : Bool) (d : Int) : L_ref09_Bottom_1_0 R k w (n + 1) a b c d = ifB (decide (d < (List.length a : Int)))
 (ifB c
 (when ((decide (0 ≤ b)) && (decide (b < (List.length a : Int)))) (when (fits 1 false (List.getD a (Int.toNat b) nilp)) (when (isSl (List.getD a (Int.toNat b) nilp)) (when ((decide (0 ≤ d)) && (decide (d < (List.length (toSl (List.getD a (Int.toNat b) nilp)) : Int)))) (when (fits 1 false (List.getD (toSl (List.getD a (Int.toNat b) nilp)) (Int.toNat d) nilp)) (when (isBool (List.getD (toSl (List.getD a (Int.toNat b) nilp)) (Int.toNat d) nilp)) (L_ref09_Bottom_1_0 R k w n a b (toBool (List.getD (toSl (List.getD a (Int.toNat b) nilp)) (Int.toNat d) nilp)) (IntKind.wrap .i64 (d + 1)))))))))
 (L_ref09_Bottom_1_0 R k w n a b false (IntKind.wrap .i64 (d + 1))))
 (some ((.exit 2), X_ref09_Bottom_1_0 a b c)) := by kernel_rfl
theorem X_ref09_Bottom_1_0_eq (R : Orc) (k : Nat) (w : Bool) (n : Nat) (a : List FV) (b : Int) (c : Bool) : K_ref09_Bottom_1 R k w n (.exit 2) (X_ref09_Bottom_1_0 a b c) = ifB c
 (some (.ret, X_ref09_Bottom_2_1 b))
 (L_ref09_Bottom_2_0 R k w n a (IntKind.wrap .i64 (b + 1))) := by kernel_rfl
theorem X_ref09_Bottom_2_1_eq (R : Orc) (k : Nat) (w : Bool) (a : Int) : K_ref09_Bottom_2 R k w .ret (X_ref09_Bottom_2_1 a) = some ([.fz (.int .i64 a)], []) := by kernel_rfl
def C_level_Lattice_Bottom : ACode := codeOf 62 Try.f62
def A_level_Lattice_Bottom : AFunc := ⟨1, [(.tmp 2, .fz)], C_level_Lattice_Bottom, none⟩
theorem E_level_Lattice_Bottom (R : Orc) (k : Nat) (w : Bool) (a : FV) : callL R k w A_level_Lattice_Bottom [.fz (.pt 195 true a 0)] = when (isAg 195 a) (when (isInt .i64 (cell a 193)) (some ([.fz (.int .i64 (toInt (cell a 193)))], []))) := by kernel_rfl
def C_num_Int : ACode := codeOf 64 Try.f64
def A_num_Int : AFunc := ⟨1, [(.cell 2 2 true, .fz), (.tmp 3, .fz)], C_num_Int, none⟩
theorem E_num_Int (R : Orc) (k : Nat) (w : Bool) (a : Int) : callL R k w A_num_Int [.fz (.int .i64 a)] = onR (R N_num_Make [.fz (.int .i64 a), .fz (.int .i64 0)]) fun r0 => when (List.isEmpty r0.2 && allF [.fz, .fz] r0.1) (when (isInt .i64 (toF (List.getD r0.1 1 em))) (when (fits 2 true (toF (List.getD r0.1 0 em))) (some ([.fz (toF (List.getD r0.1 0 em)), .fz (.int .i64 (toInt (toF (List.getD r0.1 1 em))))], [])))) := by kernel_rfl
def C_num_Text : ACode := codeOf 65 Try.f65
def A_num_Text_j1 : ACode := C_num_Text.at [1, 1, 1, 1, 0]
def A_num_Text : AFunc := ⟨1, [(.tmp 2, .fz)], C_num_Text, none⟩
def J_num_Text_1_0 (R : Orc) (k : Nat) (w : Bool) (a : ByteArray) (b c d : Int) := execL R k w [] A_num_Text_j1 Ans ⟨[(1, .ptr 4096 0 0), (3, .fz (.str a)), (4, .fz (.int .i64 b))], [(4095, .dead), (4096, .var 2 true (.fz (.ag [.int .i64 c, .int .i64 d])))]⟩ (kFin R [(.tmp 2, .fz)] [])
theorem E_num_Text (R : Orc) (k : Nat) (w : Bool) (a b : Int) : callL R k w A_num_Text [.fz (.ag [.int .i64 a, .int .i64 b])] = onR (R N_num_Is [.fz (.ag [.int .i64 a, .int .i64 b])]) fun r0 => when (List.isEmpty r0.2 && allF [.fz] r0.1) (when (isBool (toF (List.getD r0.1 0 em))) (ifB (!(toBool (toF (List.getD r0.1 0 em))))
 (some ([.fz (.str (⟨#[63]⟩ : ByteArray))], []))
 (ifB (decide (a < 0))
 (jump w (J_num_Text_1_0 R k w (⟨#[45]⟩ : ByteArray) (IntKind.wrap .i64 (0 - a)) a b))
 (jump w (J_num_Text_1_0 R k w (⟨#[]⟩ : ByteArray) a a b))))) := by kernel_rfl
theorem J_num_Text_1_0_eq (R : Orc) (k : Nat) (w : Bool) (a : ByteArray) (b c d : Int) : J_num_Text_1_0 R k w a b c d = onR (R N_num_pow [.fz (.int .i64 d)]) fun r1 => when (List.isEmpty r1.2 && allF [.fz] r1.1) (when (isInt .i64 (toF (List.getD r1.1 0 em))) (when (!decide ((toInt (toF (List.getD r1.1 0 em))) = 0)) (onR (R N_num_digits [.fz (.int .i64 (IntKind.wrap .i64 (Int.tdiv b (toInt (toF (List.getD r1.1 0 em))))))]) fun r2 => when (List.isEmpty r2.2 && allF [.fz] r2.1) (when (isStr (toF (List.getD r2.1 0 em))) (when (decide (ByteArray.size a + ByteArray.size (toStr (toF (List.getD r2.1 0 em))) ≤ 2 ^ 62)) (ifB (d == 0)
 (some ([.fz (.str (a ++ (toStr (toF (List.getD r2.1 0 em)))))], []))
 (when (!decide ((toInt (toF (List.getD r1.1 0 em))) = 0)) (onR (R N_num_digits [.fz (.int .i64 (Int.tmod b (toInt (toF (List.getD r1.1 0 em)))))]) fun r3 => when (List.isEmpty r3.2 && allF [.fz] r3.1) (when (isStr (toF (List.getD r3.1 0 em))) (when (decide (ByteArray.size (a ++ (toStr (toF (List.getD r2.1 0 em)))) + ByteArray.size (⟨#[46]⟩ : ByteArray) ≤ 2 ^ 62)) (onR (R N_strings_Repeat [.fz (.str (⟨#[48]⟩ : ByteArray)), .fz (.int .i64 (IntKind.wrap .i64 (d - (ByteArray.size (toStr (toF (List.getD r3.1 0 em))) : Int))))]) fun r4 => when (List.isEmpty r4.2 && allF [.fz] r4.1) (when (isStr (toF (List.getD r4.1 0 em))) (when (decide (ByteArray.size ((a ++ (toStr (toF (List.getD r2.1 0 em)))) ++ (⟨#[46]⟩ : ByteArray)) + ByteArray.size (toStr (toF (List.getD r4.1 0 em))) ≤ 2 ^ 62)) (when (decide (ByteArray.size (((a ++ (toStr (toF (List.getD r2.1 0 em)))) ++ (⟨#[46]⟩ : ByteArray)) ++ (toStr (toF (List.getD r4.1 0 em)))) + ByteArray.size (toStr (toF (List.getD r3.1 0 em))) ≤ 2 ^ 62)) (some ([.fz (.str ((((a ++ (toStr (toF (List.getD r2.1 0 em)))) ++ (⟨#[46]⟩ : ByteArray)) ++ (toStr (toF (List.getD r4.1 0 em)))) ++ (toStr (toF (List.getD r3.1 0 em)))))], [])))))))))))))))) := by kernel_rfl
def C_level_Lattice_Size : ACode := codeOf 71 Try.f71
def A_level_Lattice_Size : AFunc := ⟨1, [(.tmp 2, .fz)], C_level_Lattice_Size, none⟩
theorem E_level_Lattice_Size (R : Orc) (k : Nat) (w : Bool) (a : FV) : callL R k w A_level_Lattice_Size [.fz (.pt 195 true a 0)] = when (isAg 195 a) (when (isSl (cell a 0)) (some ([.fz (.int .i64 (List.length (toSl (cell a 0)) : Int))], []))) := by kernel_rfl
def C_ref09_Deep : ACode := codeOf 72 Try.f72
def A_ref09_Deep_b1 : ACode := C_ref09_Deep.at [1, 1, 0, 1, 0, 0]
def A_ref09_Deep_s1 : ACode := C_ref09_Deep.at [1, 1, 1]
def A_ref09_Deep : AFunc := ⟨2, [(.tmp 4, .fz)], C_ref09_Deep, none⟩
def K_ref09_Deep_1 (R : Orc) (k : Nat) (w : Bool) : AExit → St → Option Ans := (kBlk 0 (kSeq R k w [] A_ref09_Deep_s1 (kFin R [(.tmp 4, .fz)] [])))
def L_ref09_Deep_1_0 (R : Orc) (k : Nat) (w : Bool) (n : Nat) (a : List FV) (b c d e f g h : Int) (i : ByteArray) (j l : List FV) := loopL R k w [] [0, 3, 5, 6] [5] A_ref09_Deep_b1 n ⟨[(0, .fz (.sl a)), (3, .ptr 4096 0 0), (5, .fz (.int .i64 b)), (6, .fz (.int .i64 c))], [(4095, .dead), (4096, .var 8 true (.fz (.ag [.int .i64 d, .int .i64 e, .int .i64 f, .int .i64 g, .int .i64 h, .str i, .sl j, .sl l])))]⟩
def X_ref09_Deep_1_0 (a : Int) : St := ⟨[(5, .fz (.int .i64 a))], [(4095, .dead)]⟩
theorem E_ref09_Deep (R : Orc) (k : Nat) (w : Bool) (a : List FV) (b c d e f : Int) (g : ByteArray) (h i : List FV) : callL R k w A_ref09_Deep [.fz (.sl a), .fz (.ag [.int .i64 b, .int .i64 c, .int .i64 d, .int .i64 e, .int .i64 f, .str g, .sl h, .sl i])] = onL (L_ref09_Deep_1_0 R k w k a b 0 b c d e f g h i) (K_ref09_Deep_1 R k w) := by kernel_rfl
theorem L_ref09_Deep_1_0_eq (R : Orc) (k : Nat) (w : Bool) (n : Nat) (a : List FV) (b c d e f g h : Int) (i : ByteArray) (j l : List FV) : L_ref09_Deep_1_0 R k w (n + 1) a b c d e f g h i j l = ifB (decide (c < (List.length j : Int)))
 (when ((decide (0 ≤ c)) && (decide (c < (List.length j : Int)))) (when (fits 8 true (List.getD j (Int.toNat c) nilp)) (onR (R N_ref09_Deep [.fz (.sl a), .fz (List.getD j (Int.toNat c) nilp)]) fun r0 => when (List.isEmpty r0.2 && allF [.fz] r0.1) (when (isInt .i64 (toF (List.getD r0.1 0 em))) (onR (R N_ref09_Join [.fz (.sl a), .fz (.int .i64 b), .fz (.int .i64 (toInt (toF (List.getD r0.1 0 em))))]) fun r1 => when (List.isEmpty r1.2 && allF [.fz] r1.1) (when (isInt .i64 (toF (List.getD r1.1 0 em))) (L_ref09_Deep_1_0 R k w n a (toInt (toF (List.getD r1.1 0 em))) (IntKind.wrap .i64 (c + 1)) d e f g h i j l)))))))
 (some ((.exit 0), X_ref09_Deep_1_0 b)) := by kernel_rfl
theorem X_ref09_Deep_1_0_eq (R : Orc) (k : Nat) (w : Bool) (a : Int) : K_ref09_Deep_1 R k w (.exit 0) (X_ref09_Deep_1_0 a) = some ([.fz (.int .i64 a)], []) := by kernel_rfl
def C_ref05_Is : ACode := codeOf 73 Try.f73
def A_ref05_Is_b1 : ACode := C_ref05_Is.at [1, 1, 0, 1, 1, 0, 0, 1, 0, 0]
def A_ref05_Is_b2 : ACode := C_ref05_Is.at [1, 1, 0, 1, 1, 0, 1, 0, 1, 0, 0]
def A_ref05_Is_s1 : ACode := C_ref05_Is.at [1, 1, 0, 1, 1, 0, 1, 1]
def A_ref05_Is_s2 : ACode := C_ref05_Is.at [1, 1, 0, 1, 1, 0, 1]
def A_ref05_Is_j3 : ACode := C_ref05_Is.at [1, 1, 0, 1, 1, 0]
def A_ref05_Is_j4 : ACode := C_ref05_Is.at [1, 1, 0]
def A_ref05_Is : AFunc := ⟨2, [(.tmp 4, .fz)], C_ref05_Is, none⟩
def J_ref05_Is_4_0 (R : Orc) (k : Nat) (w : Bool) (a b c d : Int) (e : ByteArray) (f g : List FV) := execL R k w [] A_ref05_Is_j4 Ans ⟨[(1, .fz (.int .i64 a)), (2, .ptr 4096 0 0)], [(4095, .dead), (4096, .var 6 true (.fz (.ag [.int .i64 b, .int .i64 c, .int .i64 d, .str e, .sl f, .sl g])))]⟩ (kFin R [(.tmp 4, .fz)] [])
def J_ref05_Is_3_0 (R : Orc) (k : Nat) (w : Bool) (a b c d : Int) (e : ByteArray) (f g : List FV) := execL R k w [] A_ref05_Is_j3 Ans ⟨[(1, .fz (.int .i64 a)), (2, .ptr 4096 0 0)], [(4095, .dead), (4096, .var 6 true (.fz (.ag [.int .i64 b, .int .i64 c, .int .i64 d, .str e, .sl f, .sl g])))]⟩ (kFin R [(.tmp 4, .fz)] [])
def K_ref05_Is_1 (R : Orc) (k : Nat) (w : Bool) : AExit → St → Option Ans := (kBlk 0 (kSeq R k w [] A_ref05_Is_s2 (kFin R [(.tmp 4, .fz)] [])))
def L_ref05_Is_1_0 (R : Orc) (k : Nat) (w : Bool) (n : Nat) (a b c d e : Int) (f : ByteArray) (g h : List FV) := loopL R k w [] [1, 2, 7] [1, 2, 4] A_ref05_Is_b1 n ⟨[(1, .fz (.int .i64 a)), (2, .ptr 4096 0 0), (7, .fz (.int .i64 b))], [(4095, .dead), (4096, .var 6 true (.fz (.ag [.int .i64 c, .int .i64 d, .int .i64 e, .str f, .sl g, .sl h])))]⟩
def X_ref05_Is_1_0 (a : Int) (b : Bool) (c d e : Int) (f : ByteArray) (g h : List FV) : St := ⟨[(1, .fz (.int .i64 a)), (2, .ptr 4096 0 0), (4, .fz (.bool b))], [(4095, .dead), (4096, .var 6 true (.fz (.ag [.int .i64 c, .int .i64 d, .int .i64 e, .str f, .sl g, .sl h])))]⟩
def X_ref05_Is_1_1 (a b c d : Int) (e : ByteArray) (f g : List FV) : St := ⟨[(1, .fz (.int .i64 a)), (2, .ptr 4096 0 0)], [(4095, .dead), (4096, .var 6 true (.fz (.ag [.int .i64 b, .int .i64 c, .int .i64 d, .str e, .sl f, .sl g])))]⟩
def K_ref05_Is_2 (R : Orc) (k : Nat) (w : Bool) : AExit → St → Option Ans := (kBlk 2 (kSeq R k w [] A_ref05_Is_s1 (kFin R [(.tmp 4, .fz)] [])))
def L_ref05_Is_2_0 (R : Orc) (k : Nat) (w : Bool) (n : Nat) (a b c d e : Int) (f : ByteArray) (g h : List FV) := loopL R k w [] [1, 2, 10] [4] A_ref05_Is_b2 n ⟨[(1, .fz (.int .i64 a)), (2, .ptr 4096 0 0), (10, .fz (.int .i64 b))], [(4095, .dead), (4096, .var 6 true (.fz (.ag [.int .i64 c, .int .i64 d, .int .i64 e, .str f, .sl g, .sl h])))]⟩
def X_ref05_Is_2_0 (a : Bool) : St := ⟨[(4, .fz (.bool a))], [(4095, .dead)]⟩
def X_ref05_Is_2_1 : St := ⟨[], [(4095, .dead)]⟩
theorem E_ref05_Is (R : Orc) (k : Nat) (w : Bool) (a b c : Int) (d : ByteArray) (e f : List FV) (g : Int) : callL R k w A_ref05_Is [.fz (.ag [.int .i64 a, .int .i64 b, .int .i64 c, .str d, .sl e, .sl f]), .fz (.int .i64 g)] = ifB (decide (a < 0))
 (some ([.fz (.bool false)], []))
 (ifB (decide (a > 7))
 (some ([.fz (.bool false)], []))
 (onR (R N_ref05_zero [.fz (.ag [.int .i64 a, .int .i64 b, .int .i64 c, .str d, .sl e, .sl f])]) fun r0 => when (List.isEmpty r0.2 && allF [.fz] r0.1) (when (isBool (toF (List.getD r0.1 0 em))) (ifB (!(toBool (toF (List.getD r0.1 0 em))))
 (some ([.fz (.bool false)], []))
 (ifB (decide (g > 32))
 (some ([.fz (.bool false)], []))
 (jump w (J_ref05_Is_4_0 R k w g a b c d e f))))))) := by kernel_rfl
theorem J_ref05_Is_4_0_eq (R : Orc) (k : Nat) (w : Bool) (a b c d : Int) (e : ByteArray) (f g : List FV) : J_ref05_Is_4_0 R k w a b c d e f g = onR (R N_ref03_Signs [.fz (.str e)]) fun r1 => when (List.isEmpty r1.2 && allF [.fz, .fz] r1.1) (when (isBool (toF (List.getD r1.1 1 em))) (ifB (!(toBool (toF (List.getD r1.1 1 em))))
 (some ([.fz (.bool false)], []))
 (ifB (b == 3)
 (onR (R N_ref04_Is [.fz (.ag [.int .i64 c, .int .i64 d])]) fun r2 => when (List.isEmpty r2.2 && allF [.fz] r2.1) (when (isBool (toF (List.getD r2.1 0 em))) (ifB (!(toBool (toF (List.getD r2.1 0 em))))
 (some ([.fz (.bool false)], []))
 (ifB (b == 6)
 (ifB ((List.length g : Int) != (List.length f : Int))
 (some ([.fz (.bool false)], []))
 (jump w (J_ref05_Is_3_0 R k w a b c d e f g)))
 (jump w (J_ref05_Is_3_0 R k w a b c d e f g))))))
 (ifB (b == 6)
 (ifB ((List.length g : Int) != (List.length f : Int))
 (some ([.fz (.bool false)], []))
 (jump w (J_ref05_Is_3_0 R k w a b c d e f g)))
 (jump w (J_ref05_Is_3_0 R k w a b c d e f g)))))) := by kernel_rfl
theorem J_ref05_Is_3_0_eq (R : Orc) (k : Nat) (w : Bool) (a b c d : Int) (e : ByteArray) (f g : List FV) : J_ref05_Is_3_0 R k w a b c d e f g = onL (L_ref05_Is_1_0 R k w k a 0 b c d e f g) (K_ref05_Is_1 R k w) := by kernel_rfl
theorem L_ref05_Is_1_0_eq (R : Orc) (k : Nat) (w : Bool) (n : Nat) (a b c d e : Int) (f : ByteArray) (g h : List FV) : L_ref05_Is_1_0 R k w (n + 1) a b c d e f g h = ifB (decide (b < (List.length h : Int)))
 (when ((decide (0 ≤ b)) && (decide (b < (List.length h : Int)))) (when (fits 1 false (List.getD h (Int.toNat b) nilp)) (when (isStr (List.getD h (Int.toNat b) nilp)) (onR (R N_ref03_Signs [.fz (.str (toStr (List.getD h (Int.toNat b) nilp)))]) fun r3 => when (List.isEmpty r3.2 && allF [.fz, .fz] r3.1) (when (isBool (toF (List.getD r3.1 1 em))) (ifB (!(toBool (toF (List.getD r3.1 1 em))))
 (some (.ret, X_ref05_Is_1_0 a false c d e f g h))
 (ifB (decide (b > 0))
 (when ((decide (0 ≤ b)) && (decide (b < (List.length h : Int)))) (when (fits 1 false (List.getD h (Int.toNat b) nilp)) (when (isStr (List.getD h (Int.toNat b) nilp)) (when ((decide (0 ≤ (IntKind.wrap .i64 (b - 1)))) && (decide ((IntKind.wrap .i64 (b - 1)) < (List.length h : Int)))) (when (fits 1 false (List.getD h (Int.toNat (IntKind.wrap .i64 (b - 1))) nilp)) (when (isStr (List.getD h (Int.toNat (IntKind.wrap .i64 (b - 1))) nilp)) (ifB (Op.bytesLess (ByteArray.toList (toStr (List.getD h (Int.toNat b) nilp))) (ByteArray.toList (toStr (List.getD h (Int.toNat (IntKind.wrap .i64 (b - 1))) nilp))) || ByteArray.toList (toStr (List.getD h (Int.toNat b) nilp)) == ByteArray.toList (toStr (List.getD h (Int.toNat (IntKind.wrap .i64 (b - 1))) nilp)))
 (some (.ret, X_ref05_Is_1_0 a false c d e f g h))
 (L_ref05_Is_1_0 R k w n a (IntKind.wrap .i64 (b + 1)) c d e f g h))))))))
 (L_ref05_Is_1_0 R k w n a (IntKind.wrap .i64 (b + 1)) c d e f g h))))))))
 (some ((.exit 0), X_ref05_Is_1_1 a c d e f g h)) := by kernel_rfl
theorem X_ref05_Is_1_0_eq (R : Orc) (k : Nat) (w : Bool) (a : Int) (b : Bool) (c d e : Int) (f : ByteArray) (g h : List FV) : K_ref05_Is_1 R k w .ret (X_ref05_Is_1_0 a b c d e f g h) = some ([.fz (.bool b)], []) := by kernel_rfl
theorem X_ref05_Is_1_1_eq (R : Orc) (k : Nat) (w : Bool) (a b c d : Int) (e : ByteArray) (f g : List FV) : K_ref05_Is_1 R k w (.exit 0) (X_ref05_Is_1_1 a b c d e f g) = onL (L_ref05_Is_2_0 R k w k a 0 b c d e f g) (K_ref05_Is_2 R k w) := by kernel_rfl
theorem L_ref05_Is_2_0_eq (R : Orc) (k : Nat) (w : Bool) (n : Nat) (a b c d e : Int) (f : ByteArray) (g h : List FV) : L_ref05_Is_2_0 R k w (n + 1) a b c d e f g h = ifB (decide (b < (List.length g : Int)))
 (when ((decide (0 ≤ b)) && (decide (b < (List.length g : Int)))) (when (fits 6 true (List.getD g (Int.toNat b) nilp)) (when (isAg 6 (List.getD g (Int.toNat b) nilp)) (when (isInt .i64 (cell (List.getD g (Int.toNat b) nilp) 0)) (ifB ((toInt (cell (List.getD g (Int.toNat b) nilp) 0)) == 7)
 (some (.ret, X_ref05_Is_2_0 false))
 (when ((decide (0 ≤ b)) && (decide (b < (List.length g : Int)))) (when (fits 6 true (List.getD g (Int.toNat b) nilp)) (onR (R N_ref05_Is [.fz (List.getD g (Int.toNat b) nilp), .fz (.int .i64 (IntKind.wrap .i64 (a + 1)))]) fun r4 => when (List.isEmpty r4.2 && allF [.fz] r4.1) (when (isBool (toF (List.getD r4.1 0 em))) (ifB (!(toBool (toF (List.getD r4.1 0 em))))
 (some (.ret, X_ref05_Is_2_0 false))
 (L_ref05_Is_2_0 R k w n a (IntKind.wrap .i64 (b + 1)) c d e f g h)))))))))))
 (some ((.exit 2), X_ref05_Is_2_1)) := by kernel_rfl
theorem X_ref05_Is_2_0_eq (R : Orc) (k : Nat) (w a : Bool) : K_ref05_Is_2 R k w .ret (X_ref05_Is_2_0 a) = some ([.fz (.bool a)], []) := by kernel_rfl
theorem X_ref05_Is_2_1_eq (R : Orc) (k : Nat) (w : Bool) : K_ref05_Is_2 R k w (.exit 2) (X_ref05_Is_2_1) = some ([.fz (.bool true)], []) := by kernel_rfl
def C_ref12_body : ACode := codeOf 74 Try.f74
def A_ref12_body_j1 : ACode := C_ref12_body.at [1, 1, 0, 1, 0]
def A_ref12_body_j2 : ACode := C_ref12_body.at [1, 1, 1, 0, 1, 0, 1, 0, 0, 1, 0, 0, 1, 0, 0, 1, 0, 1, 1, 0]
def A_ref12_body_j3 : ACode := C_ref12_body.at [1, 1, 1, 0, 1, 0, 1, 0, 0, 1, 0, 0, 1, 0, 1, 0]
def A_ref12_body_s4 : ACode := C_ref12_body.at [1, 1, 1, 0, 1, 0, 1, 0, 0, 1, 0, 0, 1, 0, 1]
def A_ref12_body_j5 : ACode := C_ref12_body.at [1, 1, 1, 0, 1, 0, 1, 0, 0, 1, 0, 0, 1, 0]
def A_ref12_body_s6 : ACode := C_ref12_body.at [1, 1, 1, 0, 1, 0, 1, 0, 0, 1, 1]
def A_ref12_body_b1 : ACode := C_ref12_body.at [1, 1, 1, 0, 1, 0, 1, 0, 0]
def A_ref12_body_s7 : ACode := C_ref12_body.at [1, 1, 1, 0, 1, 1]
def A_ref12_body_j8 : ACode := C_ref12_body.at [1, 1, 1, 0]
def A_ref12_body_s9 : ACode := C_ref12_body.at [1, 1, 1]
def A_ref12_body : AFunc := ⟨2, [(.tmp 4, .fz)], C_ref12_body, none⟩
def J_ref12_body_1_0 (R : Orc) (k : Nat) (w : Bool) (a : List FV) (b : Bool) (c d e f g : Int) (h : ByteArray) (i j : List FV) := execL R k w [] A_ref12_body_j1 Ans ⟨[(0, .fz (.sl a)), (3, .ptr 4096 0 0), (23, .fz (.bool b))], [(4095, .dead), (4096, .var 8 true (.fz (.ag [.int .i64 c, .int .i64 d, .int .i64 e, .int .i64 f, .int .i64 g, .str h, .sl i, .sl j])))]⟩ (kSeq R k w [] A_ref12_body_s9 (kFin R [(.tmp 4, .fz)] []))
def J_ref12_body_8_0 (R : Orc) (k : Nat) (w : Bool) (a : List FV) (b c d e f : Int) (g : ByteArray) (h i : List FV) := execL R k w [] A_ref12_body_j8 Ans ⟨[(0, .fz (.sl a)), (3, .ptr 4096 0 0)], [(4095, .dead), (4096, .var 8 true (.fz (.ag [.int .i64 b, .int .i64 c, .int .i64 d, .int .i64 e, .int .i64 f, .str g, .sl h, .sl i])))]⟩ (kFin R [(.tmp 4, .fz)] [])
def K_ref12_body_1 (R : Orc) (k : Nat) (w : Bool) : AExit → St → Option Ans := (kBlk 0 (kSeq R k w [] A_ref12_body_s7 (kFin R [(.tmp 4, .fz)] [])))
def L_ref12_body_1_0 (R : Orc) (k : Nat) (w : Bool) (n : Nat) (a : List FV) (b : ByteArray) (c d e f g h : Int) (i : ByteArray) (j l : List FV) := loopL R k w [] [0, 3, 5, 6] [3, 5] A_ref12_body_b1 n ⟨[(0, .fz (.sl a)), (3, .ptr 4096 0 0), (5, .fz (.str b)), (6, .fz (.int .i64 c))], [(4095, .dead), (4096, .var 8 true (.fz (.ag [.int .i64 d, .int .i64 e, .int .i64 f, .int .i64 g, .int .i64 h, .str i, .sl j, .sl l])))]⟩
def J_ref12_body_5_0 (R : Orc) (k : Nat) (w : Bool) (n : Nat) (a : List FV) (b : ByteArray) (c d e f g h : Int) (i : ByteArray) (j l : List FV) := execL R k w [] A_ref12_body_j5 (AExit × St) ⟨[(0, .fz (.sl a)), (3, .ptr 4096 0 0), (5, .fz (.str b)), (6, .fz (.int .i64 c))], [(4095, .dead), (4096, .var 8 true (.fz (.ag [.int .i64 d, .int .i64 e, .int .i64 f, .int .i64 g, .int .i64 h, .str i, .sl j, .sl l])))]⟩ (kBlk 1 (kSeq R k w [] A_ref12_body_s6 (kLoop R k w [] [0, 3, 5, 6] [3, 5] A_ref12_body_b1 n)))
def X_ref12_body_1_0 (a : ByteArray) (b c d e f : Int) (g : ByteArray) (h i : List FV) : St := ⟨[(3, .ptr 4096 0 0), (5, .fz (.str a))], [(4095, .dead), (4096, .var 8 true (.fz (.ag [.int .i64 b, .int .i64 c, .int .i64 d, .int .i64 e, .int .i64 f, .str g, .sl h, .sl i])))]⟩
def J_ref12_body_2_0 (R : Orc) (k : Nat) (w : Bool) (n : Nat) (a : List FV) (b : ByteArray) (c : Int) (d : ByteArray) (e f g h i : Int) (j : ByteArray) (l m : List FV) := execL R k w [] A_ref12_body_j2 (AExit × St) ⟨[(0, .fz (.sl a)), (3, .ptr 4096 0 0), (5, .fz (.str b)), (6, .fz (.int .i64 c)), (7, .fz (.str d))], [(4095, .dead), (4096, .var 8 true (.fz (.ag [.int .i64 e, .int .i64 f, .int .i64 g, .int .i64 h, .int .i64 i, .str j, .sl l, .sl m])))]⟩ (kSeq R k w [] A_ref12_body_s4 (kBlk 1 (kSeq R k w [] A_ref12_body_s6 (kLoop R k w [] [0, 3, 5, 6] [3, 5] A_ref12_body_b1 n))))
def J_ref12_body_3_0 (R : Orc) (k : Nat) (w : Bool) (n : Nat) (a : List FV) (b : ByteArray) (c d e f g h : Int) (i : ByteArray) (j l : List FV) := execL R k w [] A_ref12_body_j3 (AExit × St) ⟨[(0, .fz (.sl a)), (3, .ptr 4096 0 0), (5, .fz (.str b)), (6, .fz (.int .i64 c))], [(4095, .dead), (4096, .var 8 true (.fz (.ag [.int .i64 d, .int .i64 e, .int .i64 f, .int .i64 g, .int .i64 h, .str i, .sl j, .sl l])))]⟩ (kBlk 1 (kSeq R k w [] A_ref12_body_s6 (kLoop R k w [] [0, 3, 5, 6] [3, 5] A_ref12_body_b1 n)))
theorem E_ref12_body (R : Orc) (k : Nat) (w : Bool) (a : List FV) (b c d e f : Int) (g : ByteArray) (h i : List FV) : callL R k w A_ref12_body [.fz (.sl a), .fz (.ag [.int .i64 b, .int .i64 c, .int .i64 d, .int .i64 e, .int .i64 f, .str g, .sl h, .sl i])] = ifB (d == 7)
 (onR (R N_ref12_quote [.fz (.str g)]) fun r0 => when (List.isEmpty r0.2 && allF [.fz] r0.1) (when (isStr (toF (List.getD r0.1 0 em))) (when (decide (ByteArray.size (⟨#[123, 34, 35, 33, 34, 58]⟩ : ByteArray) + ByteArray.size (toStr (toF (List.getD r0.1 0 em))) ≤ 2 ^ 62)) (when (decide (ByteArray.size ((⟨#[123, 34, 35, 33, 34, 58]⟩ : ByteArray) ++ (toStr (toF (List.getD r0.1 0 em)))) + ByteArray.size (⟨#[125]⟩ : ByteArray) ≤ 2 ^ 62)) (some ([.fz (.str (((⟨#[123, 34, 35, 33, 34, 58]⟩ : ByteArray) ++ (toStr (toF (List.getD r0.1 0 em)))) ++ (⟨#[125]⟩ : ByteArray)))], []))))))
 (ifB (d != 5)
 (jump w (J_ref12_body_1_0 R k w a (d != 6) b c d e f g h i))
 (jump w (J_ref12_body_1_0 R k w a false b c d e f g h i))) := by kernel_rfl
theorem J_ref12_body_1_0_eq (R : Orc) (k : Nat) (w : Bool) (a : List FV) (b : Bool) (c d e f g : Int) (h : ByteArray) (i j : List FV) : J_ref12_body_1_0 R k w a b c d e f g h i j = ifB b
 (onR (R N_ref06_Text [.fz (.ag [.int .i64 e, .int .i64 f, .int .i64 g, .str h, .sl [], .sl []])]) fun r1 => when (List.isEmpty r1.2 && allF [.fz] r1.1) (when (isStr (toF (List.getD r1.1 0 em))) (some ([.fz (.str (toStr (toF (List.getD r1.1 0 em))))], []))))
 (jump w (J_ref12_body_8_0 R k w a c d e f g h i j)) := by kernel_rfl
theorem J_ref12_body_8_0_eq (R : Orc) (k : Nat) (w : Bool) (a : List FV) (b c d e f : Int) (g : ByteArray) (h i : List FV) : J_ref12_body_8_0 R k w a b c d e f g h i = onL (L_ref12_body_1_0 R k w k a (⟨#[]⟩ : ByteArray) 0 b c d e f g h i) (K_ref12_body_1 R k w) := by kernel_rfl
theorem L_ref12_body_1_0_eq (R : Orc) (k : Nat) (w : Bool) (n : Nat) (a : List FV) (b : ByteArray) (c d e f g h : Int) (i : ByteArray) (j l : List FV) : L_ref12_body_1_0 R k w (n + 1) a b c d e f g h i j l = ifB (decide (c < (List.length j : Int)))
 (ifB (decide (c > 0))
 (when (decide (ByteArray.size b + ByteArray.size (⟨#[44]⟩ : ByteArray) ≤ 2 ^ 62)) (jump w (J_ref12_body_5_0 R k w n a (b ++ (⟨#[44]⟩ : ByteArray)) c d e f g h i j l)))
 (jump w (J_ref12_body_5_0 R k w n a b c d e f g h i j l)))
 (some ((.exit 0), X_ref12_body_1_0 b d e f g h i j l)) := by kernel_rfl
theorem J_ref12_body_5_0_eq (R : Orc) (k : Nat) (w : Bool) (n : Nat) (a : List FV) (b : ByteArray) (c d e f g h : Int) (i : ByteArray) (j l : List FV) : J_ref12_body_5_0 R k w n a b c d e f g h i j l = ifB (f == 6)
 (when ((decide (0 ≤ c)) && (decide (c < (List.length l : Int)))) (when (fits 1 false (List.getD l (Int.toNat c) nilp)) (when (isStr (List.getD l (Int.toNat c) nilp)) (ifB (decide ((ByteArray.size (toStr (List.getD l (Int.toNat c) nilp)) : Int) > 0))
 (when (decide (0 < (ByteArray.size (toStr (List.getD l (Int.toNat c) nilp)) : Int))) (ifB ((((Array.getD (ByteArray.data (toStr (List.getD l (Int.toNat c) nilp))) 0 0).toNat : Nat) : Int) == 35)
 (when (decide (ByteArray.size (⟨#[35]⟩ : ByteArray) + ByteArray.size (toStr (List.getD l (Int.toNat c) nilp)) ≤ 2 ^ 62)) (jump w (J_ref12_body_2_0 R k w n a b c ((⟨#[35]⟩ : ByteArray) ++ (toStr (List.getD l (Int.toNat c) nilp))) d e f g h i j l)))
 (jump w (J_ref12_body_2_0 R k w n a b c (toStr (List.getD l (Int.toNat c) nilp)) d e f g h i j l))))
 (jump w (J_ref12_body_2_0 R k w n a b c (toStr (List.getD l (Int.toNat c) nilp)) d e f g h i j l))))))
 (jump w (J_ref12_body_3_0 R k w n a b c d e f g h i j l)) := by kernel_rfl
theorem X_ref12_body_1_0_eq (R : Orc) (k : Nat) (w : Bool) (a : ByteArray) (b c d e f : Int) (g : ByteArray) (h i : List FV) : K_ref12_body_1 R k w (.exit 0) (X_ref12_body_1_0 a b c d e f g h i) = ifB (d == 6)
 (when (decide (ByteArray.size (⟨#[123]⟩ : ByteArray) + ByteArray.size a ≤ 2 ^ 62)) (when (decide (ByteArray.size ((⟨#[123]⟩ : ByteArray) ++ a) + ByteArray.size (⟨#[125]⟩ : ByteArray) ≤ 2 ^ 62)) (some ([.fz (.str (((⟨#[123]⟩ : ByteArray) ++ a) ++ (⟨#[125]⟩ : ByteArray)))], []))))
 (when (decide (ByteArray.size (⟨#[91]⟩ : ByteArray) + ByteArray.size a ≤ 2 ^ 62)) (when (decide (ByteArray.size ((⟨#[91]⟩ : ByteArray) ++ a) + ByteArray.size (⟨#[93]⟩ : ByteArray) ≤ 2 ^ 62)) (some ([.fz (.str (((⟨#[91]⟩ : ByteArray) ++ a) ++ (⟨#[93]⟩ : ByteArray)))], [])))) := by kernel_rfl
theorem J_ref12_body_2_0_gen (a : ACode) (R : Orc) (k : Nat) (w : Bool) (n : Nat) (b : List FV) (d : ByteArray) (e : Int) (f : ByteArray) (g h i j l : Int) (m : ByteArray) (o p : List FV) : execL R k w [] (.region [⟨(some 61), .mov (.t 5), none, some .str⟩, ⟨(some 62), .mov (.t 7), none, some .str⟩, ⟨(some 63), .call N_ref12_quote [((.t 62), .fz)] [.fz], none, some .str⟩, ⟨(some 64), .binS .add (.t 61) (.t 63), none, some .str⟩, ⟨(some 65), .binS .add (.t 64) (.c (.fz (.str ⟨#[58]⟩))), none, some .str⟩, ⟨(some 5), .mov (.t 65), none, some .str⟩]) (AExit × St) ⟨[(0, .fz (.sl b)), (3, .ptr 4096 0 0), (5, .fz (.str d)), (6, .fz (.int .i64 e)), (7, .fz (.str f))], [(4095, .dead), (4096, .var 8 true (.fz (.ag [.int .i64 g, .int .i64 h, .int .i64 i, .int .i64 j, .int .i64 l, .str m, .sl o, .sl p])))]⟩ (kSeq R k w [] (.trim [0, 3, 5, 6] a) (kBlk 1 (kSeq R k w [] A_ref12_body_s6 (kLoop R k w [] [0, 3, 5, 6] [3, 5] A_ref12_body_b1 n)))) = onR (R N_ref12_quote [.fz (.str f)]) fun r2 => when (List.isEmpty r2.2 && allF [.fz] r2.1) (when (isStr (toF (List.getD r2.1 0 em))) (when (decide (ByteArray.size d + ByteArray.size (toStr (toF (List.getD r2.1 0 em))) ≤ 2 ^ 62)) (when (decide (ByteArray.size (d ++ (toStr (toF (List.getD r2.1 0 em)))) + ByteArray.size (⟨#[58]⟩ : ByteArray) ≤ 2 ^ 62)) (jump w ((execL R k w [] a (AExit × St) ⟨[(0, .fz (.sl b)), (3, .ptr 4096 0 0), (5, .fz (.str ((d ++ (toStr (toF (List.getD r2.1 0 em)))) ++ (⟨#[58]⟩ : ByteArray)))), (6, .fz (.int .i64 e))], [(4095, .dead), (4096, .var 8 true (.fz (.ag [.int .i64 g, .int .i64 h, .int .i64 i, .int .i64 j, .int .i64 l, .str m, .sl o, .sl p])))]⟩ (kBlk 1 (kSeq R k w [] A_ref12_body_s6 (kLoop R k w [] [0, 3, 5, 6] [3, 5] A_ref12_body_b1 n))))))))) := by kernel_rfl
theorem J_ref12_body_2_0_eq (R : Orc) (k : Nat) (w : Bool) (n : Nat) (a : List FV) (b : ByteArray) (d : Int) (e : ByteArray) (f g i j l : Int) (m : ByteArray) (o p : List FV) : J_ref12_body_2_0 R k w n a b d e f g i j l m o p = onR (R N_ref12_quote [.fz (.str e)]) fun r2 => when (List.isEmpty r2.2 && allF [.fz] r2.1) (when (isStr (toF (List.getD r2.1 0 em))) (when (decide (ByteArray.size b + ByteArray.size (toStr (toF (List.getD r2.1 0 em))) ≤ 2 ^ 62)) (when (decide (ByteArray.size (b ++ (toStr (toF (List.getD r2.1 0 em)))) + ByteArray.size (⟨#[58]⟩ : ByteArray) ≤ 2 ^ 62)) (jump w (J_ref12_body_3_0 R k w n a ((b ++ (toStr (toF (List.getD r2.1 0 em)))) ++ (⟨#[58]⟩ : ByteArray)) d f g i j l m o p))))) := by
 have hc : A_ref12_body_j2 = .region [⟨(some 61), .mov (.t 5), none, some .str⟩, ⟨(some 62), .mov (.t 7), none, some .str⟩, ⟨(some 63), .call N_ref12_quote [((.t 62), .fz)] [.fz], none, some .str⟩, ⟨(some 64), .binS .add (.t 61) (.t 63), none, some .str⟩, ⟨(some 65), .binS .add (.t 64) (.c (.fz (.str ⟨#[58]⟩))), none, some .str⟩, ⟨(some 5), .mov (.t 65), none, some .str⟩] := by kernel_rfl
 have hc0 : A_ref12_body_s4 = .trim [0, 3, 5, 6] A_ref12_body_j3 := by kernel_rfl
 have h := J_ref12_body_2_0_gen A_ref12_body_j3 R k w n a b d e f g i j l m o p
 rw [← hc, ← hc0] at h
 exact h
theorem J_ref12_body_3_0_eq (R : Orc) (k : Nat) (w : Bool) (n : Nat) (a : List FV) (b : ByteArray) (c d e f g h : Int) (i : ByteArray) (j l : List FV) : J_ref12_body_3_0 R k w n a b c d e f g h i j l = when ((decide (0 ≤ c)) && (decide (c < (List.length j : Int)))) (when (fits 8 true (List.getD j (Int.toNat c) nilp)) (onR (R N_ref12_text [.fz (.sl a), .fz (List.getD j (Int.toNat c) nilp), .fz (.int .i64 d)]) fun r3 => when (List.isEmpty r3.2 && allF [.fz] r3.1) (when (isStr (toF (List.getD r3.1 0 em))) (when (decide (ByteArray.size b + ByteArray.size (toStr (toF (List.getD r3.1 0 em))) ≤ 2 ^ 62)) (L_ref12_body_1_0 R k w n a (b ++ (toStr (toF (List.getD r3.1 0 em)))) (IntKind.wrap .i64 (c + 1)) d e f g h i j l))))) := by kernel_rfl
def C_ref12_quote : ACode := codeOf 75 Try.f75
def A_ref12_quote : AFunc := ⟨1, [(.tmp 2, .fz)], C_ref12_quote, none⟩
theorem E_ref12_quote (R : Orc) (k : Nat) (w : Bool) (a : ByteArray) : callL R k w A_ref12_quote [.fz (.str a)] = onR (R N_ref03_Signs [.fz (.str a)]) fun r0 => when (List.isEmpty r0.2 && allF [.fz, .fz] r0.1) (when (isBool (toF (List.getD r0.1 1 em))) (onR (R N_ref03_Quote [.fz (toF (List.getD r0.1 0 em))]) fun r1 => when (List.isEmpty r1.2 && allF [.fz] r1.1) (when (isStr (toF (List.getD r1.1 0 em))) (some ([.fz (.str (toStr (toF (List.getD r1.1 0 em))))], []))))) := by kernel_rfl
def C_ref11_At : ACode := codeOf 76 Try.f76
def A_ref11_At_b1 : ACode := C_ref11_At.at [1, 1, 1, 1, 1, 1, 0, 1, 0, 0]
def A_ref11_At_s1 : ACode := C_ref11_At.at [1, 1, 1, 1, 1, 1, 1]
def A_ref11_At : AFunc := ⟨4, [(.cell 8 8 true, .fz)], C_ref11_At, none⟩
def K_ref11_At_1 (R : Orc) (k : Nat) (w : Bool) : AExit → St → Option Ans := (kBlk 0 (kSeq R k w [] A_ref11_At_s1 (kFin R [(.cell 8 8 true, .fz)] [])))
def L_ref11_At_1_0 (R : Orc) (k : Nat) (w : Bool) (n : Nat) (a : List FV) (b c d e f g h i : Int) (j : ByteArray) (l m : List FV) (o p q s t : Int) (u : ByteArray) (v x y z A : Int) (B : ByteArray) (C : List FV) := loopL R k w [] [0, 3, 5, 8, 9, 11, 12] [0, 8, 11] A_ref11_At_b1 n ⟨[(0, .fz (.sl a)), (3, .fz (.int .i64 b)), (5, .ptr 4096 0 0), (8, .ptr 4097 0 0), (9, .fz (.int .i64 c)), (11, .ptr 4098 0 0), (12, .fz (.int .i64 d))], [(4095, .dead), (4096, .var 8 true (.fz (.ag [.int .i64 e, .int .i64 f, .int .i64 g, .int .i64 h, .int .i64 i, .str j, .sl l, .sl m]))), (4097, .var 8 true (.ag [.fz (.int .i64 o), .fz (.int .i64 p), .fz (.int .i64 q), .fz (.int .i64 s), .fz (.int .i64 t), .fz (.str u), .nils, .nils])), (4098, .var 8 true (.ag [.fz (.int .i64 v), .fz (.int .i64 x), .fz (.int .i64 y), .fz (.int .i64 z), .fz (.int .i64 A), .fz (.str B), .nils, .fz (.sl C)]))]⟩
def L_ref11_At_1_1 (R : Orc) (k : Nat) (w : Bool) (n : Nat) (a : List FV) (b c d e f g h i : Int) (j : ByteArray) (l m : List FV) (o p q s t : Int) (u : ByteArray) (v x y z A : Int) (B : ByteArray) (C D : List FV) := loopL R k w [] [0, 3, 5, 8, 9, 11, 12] [0, 8, 11] A_ref11_At_b1 n ⟨[(0, .fz (.sl a)), (3, .fz (.int .i64 b)), (5, .ptr 4096 0 0), (8, .ptr 4097 0 0), (9, .fz (.int .i64 c)), (11, .ptr 4098 0 0), (12, .fz (.int .i64 d))], [(4095, .dead), (4096, .var 8 true (.fz (.ag [.int .i64 e, .int .i64 f, .int .i64 g, .int .i64 h, .int .i64 i, .str j, .sl l, .sl m]))), (4097, .var 8 true (.ag [.fz (.int .i64 o), .fz (.int .i64 p), .fz (.int .i64 q), .fz (.int .i64 s), .fz (.int .i64 t), .fz (.str u), .nils, .nils])), (4098, .var 8 true (.ag [.fz (.int .i64 v), .fz (.int .i64 x), .fz (.int .i64 y), .fz (.int .i64 z), .fz (.int .i64 A), .fz (.str B), .rw 4099, .fz (.sl C)])), (4099, .row 8 true D)]⟩
def X_ref11_At_1_0 (a : List FV) (b c d e f : Int) (g : ByteArray) (h i j l m : Int) (o : ByteArray) (p : List FV) : St := ⟨[(0, .fz (.sl a)), (8, .ptr 4096 0 0), (11, .ptr 4097 0 0)], [(4095, .dead), (4096, .var 8 true (.ag [.fz (.int .i64 b), .fz (.int .i64 c), .fz (.int .i64 d), .fz (.int .i64 e), .fz (.int .i64 f), .fz (.str g), .nils, .nils])), (4097, .var 8 true (.ag [.fz (.int .i64 h), .fz (.int .i64 i), .fz (.int .i64 j), .fz (.int .i64 l), .fz (.int .i64 m), .fz (.str o), .nils, .fz (.sl p)]))]⟩
def X_ref11_At_1_1 (a : List FV) (b c d e f : Int) (g : ByteArray) (h i j l m : Int) (o : ByteArray) (p q : List FV) : St := ⟨[(0, .fz (.sl a)), (8, .ptr 4096 0 0), (11, .ptr 4097 0 0)], [(4095, .dead), (4096, .var 8 true (.ag [.fz (.int .i64 b), .fz (.int .i64 c), .fz (.int .i64 d), .fz (.int .i64 e), .fz (.int .i64 f), .fz (.str g), .nils, .nils])), (4097, .var 8 true (.ag [.fz (.int .i64 h), .fz (.int .i64 i), .fz (.int .i64 j), .fz (.int .i64 l), .fz (.int .i64 m), .fz (.str o), .rw 4098, .fz (.sl p)])), (4098, .row 8 true q)]⟩
theorem E_ref11_At (R : Orc) (k : Nat) (w : Bool) (a : List FV) (b c d e f : Int) (g : ByteArray) (h i : List FV) (j l : Int) : callL R k w A_ref11_At [.fz (.sl a), .fz (.ag [.int .i64 b, .int .i64 c, .int .i64 d, .int .i64 e, .int .i64 f, .str g, .sl h, .sl i]), .fz (.int .i64 j), .fz (.int .i64 l)] = onR (R N_ref09_Join [.fz (.sl a), .fz (.int .i64 j), .fz (.int .i64 b)]) fun r0 => when (List.isEmpty r0.2 && allF [.fz] r0.1) (when (isInt .i64 (toF (List.getD r0.1 0 em))) (onR (R N_ref11_sees [.fz (.sl a), .fz (.int .i64 (toInt (toF (List.getD r0.1 0 em)))), .fz (.int .i64 l)]) fun r1 => when (List.isEmpty r1.2 && allF [.fz] r1.1) (when (isBool (toF (List.getD r1.1 0 em))) (ifB (!(toBool (toF (List.getD r1.1 0 em))))
 (onR (R N_ref09_Top [.fz (.sl a)]) fun r2 => when (List.isEmpty r2.2 && allF [.fz] r2.1) (when (isInt .i64 (toF (List.getD r2.1 0 em))) (some ([.fz (.ag [(.int .i64 (toInt (toF (List.getD r2.1 0 em)))), (.int .i64 (toInt (toF (List.getD r2.1 0 em)))), .int .i64 8, .int .i64 0, .int .i64 0, (.str (⟨#[]⟩ : ByteArray)), .sl [], .sl []])], []))))
 (onL (L_ref11_At_1_0 R k w k a l (toInt (toF (List.getD r0.1 0 em))) 0 b c d e f g h i 0 0 0 0 0 (⟨#[]⟩ : ByteArray) (toInt (toF (List.getD r0.1 0 em))) c d e f g i) (K_ref11_At_1 R k w)))))) := by kernel_rfl
theorem L_ref11_At_1_0_eq (R : Orc) (k : Nat) (w : Bool) (n : Nat) (a : List FV) (b c d e f g h i : Int) (j : ByteArray) (l m : List FV) (o p q s t : Int) (u : ByteArray) (v x y z A : Int) (B : ByteArray) (C : List FV) : L_ref11_At_1_0 R k w (n + 1) a b c d e f g h i j l m o p q s t u v x y z A B C = ifB (decide (d < (List.length l : Int)))
 (when ((decide (0 ≤ d)) && (decide (d < (List.length l : Int)))) (when (fits 8 true (List.getD l (Int.toNat d) nilp)) (onR (R N_ref11_At [.fz (.sl a), .fz (List.getD l (Int.toNat d) nilp), .fz (.int .i64 c), .fz (.int .i64 b)]) fun r3 => when (List.isEmpty r3.2 && allF [.fz] r3.1) (when (((fits 8 true (toF (List.getD r3.1 0 em))) && true) && true) (when (decide (((0 : Nat) + List.length [(toF (List.getD r3.1 0 em))]) * 104 ≤ roomy) && decide ((0 : Nat) + List.length [(toF (List.getD r3.1 0 em))] ≤ roomy)) (L_ref11_At_1_1 R k w n a b c (IntKind.wrap .i64 (d + 1)) e f g h i j l m o p q s t u v x y z A B C [(toF (List.getD r3.1 0 em))]))))))
 (some ((.exit 0), X_ref11_At_1_0 a o p q s t u v x y z A B C)) := by kernel_rfl
theorem L_ref11_At_1_1_eq (R : Orc) (k : Nat) (w : Bool) (n : Nat) (a : List FV) (b c d e f g h i : Int) (j : ByteArray) (l m : List FV) (o p q s t : Int) (u : ByteArray) (v x y z A : Int) (B : ByteArray) (C D : List FV) : L_ref11_At_1_1 R k w (n + 1) a b c d e f g h i j l m o p q s t u v x y z A B C D = ifB (decide (d < (List.length l : Int)))
 (when ((decide (0 ≤ d)) && (decide (d < (List.length l : Int)))) (when (fits 8 true (List.getD l (Int.toNat d) nilp)) (onR (R N_ref11_At [.fz (.sl a), .fz (List.getD l (Int.toNat d) nilp), .fz (.int .i64 c), .fz (.int .i64 b)]) fun r4 => when (List.isEmpty r4.2 && allF [.fz] r4.1) (when (((fits 8 true (toF (List.getD r4.1 0 em))) && true) && true) (when (decide ((List.length D + List.length [(toF (List.getD r4.1 0 em))]) * 104 ≤ roomy) && decide (List.length D + List.length [(toF (List.getD r4.1 0 em))] ≤ roomy)) (L_ref11_At_1_1 R k w n a b c (IntKind.wrap .i64 (d + 1)) e f g h i j l m o p q s t u v x y z A B C (D ++ [(toF (List.getD r4.1 0 em))])))))))
 (some ((.exit 0), X_ref11_At_1_1 a o p q s t u v x y z A B C D)) := by kernel_rfl
theorem X_ref11_At_1_0_eq (R : Orc) (k : Nat) (w : Bool) (a : List FV) (b c d e f : Int) (g : ByteArray) (h i j l m : Int) (o : ByteArray) (p : List FV) : K_ref11_At_1 R k w (.exit 0) (X_ref11_At_1_0 a b c d e f g h i j l m o p) = onR (R N_ref09_Deep [.fz (.sl a), .fz (.ag [.int .i64 h, .int .i64 i, .int .i64 j, .int .i64 l, .int .i64 m, .str o, .sl [], .sl p])]) fun r5 => when (List.isEmpty r5.2 && allF [.fz] r5.1) (when (isInt .i64 (toF (List.getD r5.1 0 em))) (some ([.fz (.ag [.int .i64 h, (.int .i64 (toInt (toF (List.getD r5.1 0 em)))), .int .i64 j, .int .i64 l, .int .i64 m, .str o, .sl [], .sl p])], []))) := by kernel_rfl
theorem X_ref11_At_1_1_eq (R : Orc) (k : Nat) (w : Bool) (a : List FV) (b c d e f : Int) (g : ByteArray) (h i j l m : Int) (o : ByteArray) (p q : List FV) : K_ref11_At_1 R k w (.exit 0) (X_ref11_At_1_1 a b c d e f g h i j l m o p q) = onR (R N_ref09_Deep [.fz (.sl a), .fz (.ag [.int .i64 h, .int .i64 i, .int .i64 j, .int .i64 l, .int .i64 m, .str o, .sl q, .sl p])]) fun r6 => when (List.isEmpty r6.2 && allF [.fz] r6.1) (when (isInt .i64 (toF (List.getD r6.1 0 em))) (some ([.fz (.ag [.int .i64 h, (.int .i64 (toInt (toF (List.getD r6.1 0 em)))), .int .i64 j, .int .i64 l, .int .i64 m, .str o, .sl q, .sl p])], []))) := by kernel_rfl
def C_level_Lattice_Join : ACode := codeOf 77 Try.f77
def A_level_Lattice_Join_j1 : ACode := C_level_Lattice_Join.at [1, 1, 0]
def A_level_Lattice_Join : AFunc := ⟨3, [(.tmp 6, .fz)], C_level_Lattice_Join, none⟩
def J_level_Lattice_Join_1_0 (R : Orc) (k : Nat) (w : Bool) (a : FV) (b c : Int) := execL R k w [] A_level_Lattice_Join_j1 Ans ⟨[(0, .fz (.pt 195 true a 0)), (1, .fz (.int .i64 b)), (2, .fz (.int .i64 c))], [(4095, .dead)]⟩ (kFin R [(.tmp 6, .fz)] [])
theorem E_level_Lattice_Join (R : Orc) (k : Nat) (w : Bool) (a : FV) (b c : Int) : callL R k w A_level_Lattice_Join [.fz (.pt 195 true a 0), .fz (.int .i64 b), .fz (.int .i64 c)] = onR (R N_level_Lattice_Is [.fz (.pt 195 true a 0), .fz (.int .i64 b)]) fun r0 => when (List.isEmpty r0.2 && allF [.fz] r0.1) (when (isBool (toF (List.getD r0.1 0 em))) (ifB (!(toBool (toF (List.getD r0.1 0 em))))
 (onR (R N_level_Lattice_Top [.fz (.pt 195 true a 0)]) fun r1 => when (List.isEmpty r1.2 && allF [.fz] r1.1) (when (isInt .i64 (toF (List.getD r1.1 0 em))) (some ([.fz (.int .i64 (toInt (toF (List.getD r1.1 0 em))))], []))))
 (onR (R N_level_Lattice_Is [.fz (.pt 195 true a 0), .fz (.int .i64 c)]) fun r2 => when (List.isEmpty r2.2 && allF [.fz] r2.1) (when (isBool (toF (List.getD r2.1 0 em))) (ifB (!(toBool (toF (List.getD r2.1 0 em))))
 (onR (R N_level_Lattice_Top [.fz (.pt 195 true a 0)]) fun r3 => when (List.isEmpty r3.2 && allF [.fz] r3.1) (when (isInt .i64 (toF (List.getD r3.1 0 em))) (some ([.fz (.int .i64 (toInt (toF (List.getD r3.1 0 em))))], []))))
 (jump w (J_level_Lattice_Join_1_0 R k w a b c))))))) := by kernel_rfl
theorem J_level_Lattice_Join_1_0_eq (R : Orc) (k : Nat) (w : Bool) (a : FV) (b c : Int) : J_level_Lattice_Join_1_0 R k w a b c = when (decide (0 ≤ b) && decide (b < 8)) (when (decide (0 ≤ c) && decide (c < 8)) (when (isAg 195 a) (when (Nat.blt ((65 + ((Int.toNat b) * 8)) + ((Int.toNat c) * 1)) 195) (when (isInt .i64 (cell a ((65 + ((Int.toNat b) * 8)) + ((Int.toNat c) * 1)))) (some ([.fz (.int .i64 (toInt (cell a ((65 + ((Int.toNat b) * 8)) + ((Int.toNat c) * 1)))))], [])))))) := by kernel_rfl
def C_show_quoted : ACode := codeOf 80 Try.f80
def A_show_quoted : AFunc := ⟨1, [(.tmp 2, .fz)], C_show_quoted, none⟩
theorem E_show_quoted (R : Orc) (k : Nat) (w : Bool) (a : ByteArray) : callL R k w A_show_quoted [.fz (.str a)] = onR (R N_utf_Quote [.fz (.str a)]) fun r0 => when (List.isEmpty r0.2 && allF [.fz, .fz] r0.1) (when (isStr (toF (List.getD r0.1 0 em))) (when (isInt .i64 (toF (List.getD r0.1 1 em))) (some ([.fz (.str (toStr (toF (List.getD r0.1 0 em))))], [])))) := by kernel_rfl
end
end Go.Ab
end
section
namespace Go.Ab
open Go.Proofs FV TV
set_option maxRecDepth 100000
noncomputable section
def C_utf_Valid : ACode := codeOf 81 Try.f81
def A_utf_Valid_b1 : ACode := C_utf_Valid.at [1, 0, 0, 0]
def A_utf_Valid_s1 : ACode := C_utf_Valid.at [1, 1]
def A_utf_Valid : AFunc := ⟨1, [(.tmp 2, .fz)], C_utf_Valid, none⟩
def K_utf_Valid_1 (R : Orc) (k : Nat) (w : Bool) : AExit → St → Option Ans := (kBlk 0 (kSeq R k w [] A_utf_Valid_s1 (kFin R [(.tmp 2, .fz)] [])))
def L_utf_Valid_1_0 (R : Orc) (k : Nat) (w : Bool) (n : Nat) (a : ByteArray) := loopL R k w [] [0] [2] A_utf_Valid_b1 n ⟨[(0, .fz (.str a))], [(4095, .dead)]⟩
def X_utf_Valid_1_0 (a : Bool) : St := ⟨[(2, .fz (.bool a))], [(4095, .dead)]⟩
def X_utf_Valid_1_1 : St := ⟨[], [(4095, .dead)]⟩
theorem E_utf_Valid (R : Orc) (k : Nat) (w : Bool) (a : ByteArray) : callL R k w A_utf_Valid [.fz (.str a)] = onL (L_utf_Valid_1_0 R k w k a) (K_utf_Valid_1 R k w) := by kernel_rfl
theorem L_utf_Valid_1_0_eq (R : Orc) (k : Nat) (w : Bool) (n : Nat) (a : ByteArray) : L_utf_Valid_1_0 R k w (n + 1) a = ifB (!(ByteArray.toList a == ByteArray.toList (⟨#[]⟩ : ByteArray)))
 (onR (R N_utf_size [.fz (.str a)]) fun r0 => when (List.isEmpty r0.2 && allF [.fz] r0.1) (when (isInt .i64 (toF (List.getD r0.1 0 em))) (ifB ((toInt (toF (List.getD r0.1 0 em))) == 0)
 (some (.ret, X_utf_Valid_1_0 false))
 (when (decide (0 ≤ (ByteArray.size a : Int)) && decide ((ByteArray.size a : Int) ≤ (ByteArray.size a : Int))) (when (decide (0 ≤ (toInt (toF (List.getD r0.1 0 em)))) && decide ((toInt (toF (List.getD r0.1 0 em))) ≤ (ByteArray.size a : Int))) (L_utf_Valid_1_0 R k w n (ByteArray.extract a (Int.toNat (toInt (toF (List.getD r0.1 0 em)))) (Int.toNat (ByteArray.size a : Int)))))))))
 (some ((.exit 0), X_utf_Valid_1_1)) := by kernel_rfl
theorem X_utf_Valid_1_0_eq (R : Orc) (k : Nat) (w a : Bool) : K_utf_Valid_1 R k w .ret (X_utf_Valid_1_0 a) = some ([.fz (.bool a)], []) := by kernel_rfl
theorem X_utf_Valid_1_1_eq (R : Orc) (k : Nat) (w : Bool) : K_utf_Valid_1 R k w (.exit 0) (X_utf_Valid_1_1) = some ([.fz (.bool true)], []) := by kernel_rfl
def C_utf_quoted : ACode := codeOf 82 Try.f82
def A_utf_quoted : AFunc := ⟨1, [(.tmp 2, .fz)], C_utf_quoted, none⟩
theorem E_utf_quoted (R : Orc) (k : Nat) (w : Bool) (a : Int) : callL R k w A_utf_quoted [.fz (.int .i32 a)] = ifB (a == 34)
 (some ([.fz (.str (⟨#[92, 34]⟩ : ByteArray))], []))
 (ifB (a == 92)
 (some ([.fz (.str (⟨#[92, 92]⟩ : ByteArray))], []))
 (ifB (a == 8)
 (some ([.fz (.str (⟨#[92, 98]⟩ : ByteArray))], []))
 (ifB (a == 9)
 (some ([.fz (.str (⟨#[92, 116]⟩ : ByteArray))], []))
 (ifB (a == 10)
 (some ([.fz (.str (⟨#[92, 110]⟩ : ByteArray))], []))
 (ifB (a == 12)
 (some ([.fz (.str (⟨#[92, 102]⟩ : ByteArray))], []))
 (ifB (a == 13)
 (some ([.fz (.str (⟨#[92, 114]⟩ : ByteArray))], []))
 (ifB (decide (a < 32))
 (when (decide (0 ≤ (IntKind.wrap .i32 ((Int.fdiv a (2 ^ (min 4 (IntKind.bits .i32)))) + 1))) && decide ((IntKind.wrap .i32 ((Int.fdiv a (2 ^ (min 4 (IntKind.bits .i32)))) + 1)) ≤ (ByteArray.size (⟨#[48, 49, 50, 51, 52, 53, 54, 55, 56, 57, 97, 98, 99, 100, 101, 102]⟩ : ByteArray) : Int))) (when (decide (0 ≤ (Int.fdiv a (2 ^ (min 4 (IntKind.bits .i32))))) && decide ((Int.fdiv a (2 ^ (min 4 (IntKind.bits .i32)))) ≤ (IntKind.wrap .i32 ((Int.fdiv a (2 ^ (min 4 (IntKind.bits .i32)))) + 1)))) (when (decide (ByteArray.size (⟨#[92, 117, 48, 48]⟩ : ByteArray) + ByteArray.size (ByteArray.extract (⟨#[48, 49, 50, 51, 52, 53, 54, 55, 56, 57, 97, 98, 99, 100, 101, 102]⟩ : ByteArray) (Int.toNat (Int.fdiv a (2 ^ (min 4 (IntKind.bits .i32))))) (Int.toNat (IntKind.wrap .i32 ((Int.fdiv a (2 ^ (min 4 (IntKind.bits .i32)))) + 1)))) ≤ 2 ^ 62)) (when (decide (0 ≤ (IntKind.wrap .i32 ((IntKind.wrap .i32 ((BitVec.ofInt (IntKind.bits .i32) a &&& BitVec.ofInt (IntKind.bits .i32) 15).toNat : Nat)) + 1))) && decide ((IntKind.wrap .i32 ((IntKind.wrap .i32 ((BitVec.ofInt (IntKind.bits .i32) a &&& BitVec.ofInt (IntKind.bits .i32) 15).toNat : Nat)) + 1)) ≤ (ByteArray.size (⟨#[48, 49, 50, 51, 52, 53, 54, 55, 56, 57, 97, 98, 99, 100, 101, 102]⟩ : ByteArray) : Int))) (when (decide (0 ≤ (IntKind.wrap .i32 ((BitVec.ofInt (IntKind.bits .i32) a &&& BitVec.ofInt (IntKind.bits .i32) 15).toNat : Nat))) && decide ((IntKind.wrap .i32 ((BitVec.ofInt (IntKind.bits .i32) a &&& BitVec.ofInt (IntKind.bits .i32) 15).toNat : Nat)) ≤ (IntKind.wrap .i32 ((IntKind.wrap .i32 ((BitVec.ofInt (IntKind.bits .i32) a &&& BitVec.ofInt (IntKind.bits .i32) 15).toNat : Nat)) + 1)))) (when (decide (ByteArray.size ((⟨#[92, 117, 48, 48]⟩ : ByteArray) ++ (ByteArray.extract (⟨#[48, 49, 50, 51, 52, 53, 54, 55, 56, 57, 97, 98, 99, 100, 101, 102]⟩ : ByteArray) (Int.toNat (Int.fdiv a (2 ^ (min 4 (IntKind.bits .i32))))) (Int.toNat (IntKind.wrap .i32 ((Int.fdiv a (2 ^ (min 4 (IntKind.bits .i32)))) + 1))))) + ByteArray.size (ByteArray.extract (⟨#[48, 49, 50, 51, 52, 53, 54, 55, 56, 57, 97, 98, 99, 100, 101, 102]⟩ : ByteArray) (Int.toNat (IntKind.wrap .i32 ((BitVec.ofInt (IntKind.bits .i32) a &&& BitVec.ofInt (IntKind.bits .i32) 15).toNat : Nat))) (Int.toNat (IntKind.wrap .i32 ((IntKind.wrap .i32 ((BitVec.ofInt (IntKind.bits .i32) a &&& BitVec.ofInt (IntKind.bits .i32) 15).toNat : Nat)) + 1)))) ≤ 2 ^ 62)) (some ([.fz (.str (((⟨#[92, 117, 48, 48]⟩ : ByteArray) ++ (ByteArray.extract (⟨#[48, 49, 50, 51, 52, 53, 54, 55, 56, 57, 97, 98, 99, 100, 101, 102]⟩ : ByteArray) (Int.toNat (Int.fdiv a (2 ^ (min 4 (IntKind.bits .i32))))) (Int.toNat (IntKind.wrap .i32 ((Int.fdiv a (2 ^ (min 4 (IntKind.bits .i32)))) + 1))))) ++ (ByteArray.extract (⟨#[48, 49, 50, 51, 52, 53, 54, 55, 56, 57, 97, 98, 99, 100, 101, 102]⟩ : ByteArray) (Int.toNat (IntKind.wrap .i32 ((BitVec.ofInt (IntKind.bits .i32) a &&& BitVec.ofInt (IntKind.bits .i32) 15).toNat : Nat))) (Int.toNat (IntKind.wrap .i32 ((IntKind.wrap .i32 ((BitVec.ofInt (IntKind.bits .i32) a &&& BitVec.ofInt (IntKind.bits .i32) 15).toNat : Nat)) + 1))))))], []))))))))
 (some ([.fz (.str (Utf8.encode a))], []))))))))) := by kernel_rfl
def C_num_Make : ACode := codeOf 83 Try.f83
def A_num_Make_j1 : ACode := C_num_Make.at [1, 1, 0, 0, 0, 0, 1, 0]
def A_num_Make_b1 : ACode := C_num_Make.at [1, 1, 0, 0, 0, 0]
def A_num_Make_s2 : ACode := C_num_Make.at [1, 1, 0, 1]
def A_num_Make_j3 : ACode := C_num_Make.at [1, 1, 0]
def A_num_Make : AFunc := ⟨2, [(.cell 4 2 true, .fz), (.tmp 5, .fz)], C_num_Make, none⟩
def J_num_Make_3_0 (R : Orc) (k : Nat) (w : Bool) (a b c d : Int) := execL R k w [] A_num_Make_j3 Ans ⟨[(0, .fz (.int .i64 a)), (1, .fz (.int .i64 b)), (4, .ptr 4096 0 0)], [(4095, .dead), (4096, .var 2 true (.fz (.ag [.int .i64 c, .int .i64 d])))]⟩ (kFin R [(.cell 4 2 true, .fz), (.tmp 5, .fz)] [])
def K_num_Make_1 (R : Orc) (k : Nat) (w : Bool) : AExit → St → Option Ans := (kBlk 0 (kSeq R k w [] A_num_Make_s2 (kFin R [(.cell 4 2 true, .fz), (.tmp 5, .fz)] [])))
def L_num_Make_1_0 (R : Orc) (k : Nat) (w : Bool) (n : Nat) (a b c d : Int) := loopL R k w [] [0, 1, 4] [0, 1, 4] A_num_Make_b1 n ⟨[(0, .fz (.int .i64 a)), (1, .fz (.int .i64 b)), (4, .ptr 4096 0 0)], [(4095, .dead), (4096, .var 2 true (.fz (.ag [.int .i64 c, .int .i64 d])))]⟩
def J_num_Make_1_0 (R : Orc) (k : Nat) (w : Bool) (n : Nat) (a b c d : Int) := execL R k w [] A_num_Make_j1 (AExit × St) ⟨[(0, .fz (.int .i64 a)), (1, .fz (.int .i64 b)), (4, .ptr 4096 0 0)], [(4095, .dead), (4096, .var 2 true (.fz (.ag [.int .i64 c, .int .i64 d])))]⟩ (kLoop R k w [] [0, 1, 4] [0, 1, 4] A_num_Make_b1 n)
def X_num_Make_1_0 (a b c d : Int) : St := ⟨[(0, .fz (.int .i64 a)), (1, .fz (.int .i64 b)), (4, .ptr 4096 0 0)], [(4095, .dead), (4096, .var 2 true (.fz (.ag [.int .i64 c, .int .i64 d])))]⟩
theorem E_num_Make (R : Orc) (k : Nat) (w : Bool) (a b : Int) : callL R k w A_num_Make [.fz (.int .i64 a), .fz (.int .i64 b)] = ifB (decide (b < 0))
 (some ([.fz (.ag [.int .i64 0, .int .i64 0]), .fz (.int .i64 8)], []))
 (ifB (decide (b > 30))
 (some ([.fz (.ag [.int .i64 0, .int .i64 0]), .fz (.int .i64 8)], []))
 (jump w (J_num_Make_3_0 R k w a b 0 0))) := by kernel_rfl
theorem J_num_Make_3_0_eq (R : Orc) (k : Nat) (w : Bool) (a b c d : Int) : J_num_Make_3_0 R k w a b c d = onL (L_num_Make_1_0 R k w k a b c d) (K_num_Make_1 R k w) := by kernel_rfl
theorem L_num_Make_1_0_eq (R : Orc) (k : Nat) (w : Bool) (n : Nat) (a b c d : Int) : L_num_Make_1_0 R k w (n + 1) a b c d = ifB (decide (b > 0))
 (ifB ((Int.tmod a 10) == 0)
 (jump w (J_num_Make_1_0 R k w n a b c d))
 (some ((.exit 0), X_num_Make_1_0 a b c d)))
 (some ((.exit 0), X_num_Make_1_0 a b c d)) := by kernel_rfl
theorem X_num_Make_1_0_eq (R : Orc) (k : Nat) (w : Bool) (a b c d : Int) : K_num_Make_1 R k w (.exit 0) (X_num_Make_1_0 a b c d) = onR (R N_num_Is [.fz (.ag [.int .i64 a, .int .i64 b])]) fun r0 => when (List.isEmpty r0.2 && allF [.fz] r0.1) (when (isBool (toF (List.getD r0.1 0 em))) (ifB (!(toBool (toF (List.getD r0.1 0 em))))
 (some ([.fz (.ag [.int .i64 0, .int .i64 0]), .fz (.int .i64 8)], []))
 (some ([.fz (.ag [.int .i64 a, .int .i64 b]), .fz (.int .i64 0)], [])))) := by kernel_rfl
def C_num_Is : ACode := codeOf 84 Try.f84
def A_num_Is_j1 : ACode := C_num_Is.at [1, 1, 0]
def A_num_Is : AFunc := ⟨1, [(.tmp 2, .fz)], C_num_Is, none⟩
def J_num_Is_1_0 (R : Orc) (k : Nat) (w : Bool) (a b : Int) := execL R k w [] A_num_Is_j1 Ans ⟨[(1, .ptr 4096 0 0)], [(4095, .dead), (4096, .var 2 true (.fz (.ag [.int .i64 a, .int .i64 b])))]⟩ (kFin R [(.tmp 2, .fz)] [])
theorem E_num_Is (R : Orc) (k : Nat) (w : Bool) (a b : Int) : callL R k w A_num_Is [.fz (.ag [.int .i64 a, .int .i64 b])] = ifB (decide (b < 0))
 (some ([.fz (.bool false)], []))
 (ifB (decide (b > 9))
 (some ([.fz (.bool false)], []))
 (ifB (decide (a ≤ (-1000000000000000)))
 (some ([.fz (.bool false)], []))
 (ifB (decide (a ≥ 1000000000000000))
 (some ([.fz (.bool false)], []))
 (jump w (J_num_Is_1_0 R k w a b))))) := by kernel_rfl
theorem J_num_Is_1_0_eq (R : Orc) (k : Nat) (w : Bool) (a b : Int) : J_num_Is_1_0 R k w a b = ifB (b == 0)
 (some ([.fz (.bool true)], []))
 (some ([.fz (.bool ((Int.tmod a 10) != 0))], [])) := by kernel_rfl
def C_num_pow : ACode := codeOf 85 Try.f85
def A_num_pow_b1 : ACode := C_num_pow.at [1, 1, 0, 1, 0, 0]
def A_num_pow_s1 : ACode := C_num_pow.at [1, 1, 1]
def A_num_pow : AFunc := ⟨1, [(.tmp 2, .fz)], C_num_pow, none⟩
def K_num_pow_1 (R : Orc) (k : Nat) (w : Bool) : AExit → St → Option Ans := (kBlk 0 (kSeq R k w [] A_num_pow_s1 (kFin R [(.tmp 2, .fz)] [])))
def L_num_pow_1_0 (R : Orc) (k : Nat) (w : Bool) (n : Nat) (a b c : Int) := loopL R k w [] [3, 4, 5] [3] A_num_pow_b1 n ⟨[(3, .fz (.int .i64 a)), (4, .fz (.int .i64 b)), (5, .fz (.int .i64 c))], [(4095, .dead)]⟩
def X_num_pow_1_0 (a : Int) : St := ⟨[(3, .fz (.int .i64 a))], [(4095, .dead)]⟩
theorem E_num_pow (R : Orc) (k : Nat) (w : Bool) (a : Int) : callL R k w A_num_pow [.fz (.int .i64 a)] = onL (L_num_pow_1_0 R k w k 1 a 0) (K_num_pow_1 R k w) := by kernel_rfl
theorem L_num_pow_1_0_eq (R : Orc) (k : Nat) (w : Bool) (n : Nat) (a b c : Int) : L_num_pow_1_0 R k w (n + 1) a b c = ifB (decide (c < b))
 (L_num_pow_1_0 R k w n (IntKind.wrap .i64 (a * 10)) b (IntKind.wrap .i64 (c + 1)))
 (some ((.exit 0), X_num_pow_1_0 a)) := by kernel_rfl
theorem X_num_pow_1_0_eq (R : Orc) (k : Nat) (w : Bool) (a : Int) : K_num_pow_1 R k w (.exit 0) (X_num_pow_1_0 a) = some ([.fz (.int .i64 a)], []) := by kernel_rfl
def C_num_digits : ACode := codeOf 86 Try.f86
def A_num_digits_b1 : ACode := C_num_digits.at [1, 1, 1, 0, 0]
def A_num_digits : AFunc := ⟨1, [(.tmp 2, .fz)], C_num_digits, none⟩
def K_num_digits_1 (R : Orc) (k : Nat) (w : Bool) : AExit → St → Option Ans := (kBlk 0 (kFin R [(.tmp 2, .fz)] []))
def L_num_digits_1_0 (R : Orc) (k : Nat) (w : Bool) (n : Nat) (a b : Int) (c : FV) := loopL R k w [] [0, 3, 4] [2] A_num_digits_b1 n ⟨[(0, .fz (.int .i64 a)), (3, .ptr 4096 0 0), (4, .fz (.int .i64 b))], [(4095, .dead), (4096, .var 20 true (.fz c))]⟩
def X_num_digits_1_0 (a : ByteArray) : St := ⟨[(2, .fz (.str a))], [(4095, .dead)]⟩
theorem E_num_digits (R : Orc) (k : Nat) (w : Bool) (a : Int) : callL R k w A_num_digits [.fz (.int .i64 a)] = onL (L_num_digits_1_0 R k w k a 20 (.ag [.int .u8 0, .int .u8 0, .int .u8 0, .int .u8 0, .int .u8 0, .int .u8 0, .int .u8 0, .int .u8 0, .int .u8 0, .int .u8 0, .int .u8 0, .int .u8 0, .int .u8 0, .int .u8 0, .int .u8 0, .int .u8 0, .int .u8 0, .int .u8 0, .int .u8 0, .int .u8 0])) (K_num_digits_1 R k w) := by kernel_rfl
theorem L_num_digits_1_0_eq (R : Orc) (k : Nat) (w : Bool) (n : Nat) (a b : Int) (d : FV) : L_num_digits_1_0 R k w (n + 1) a b d = when ((decide (0 ≤ (Int.tmod a 10))) && (decide ((Int.tmod a 10) < (ByteArray.size (⟨#[48, 49, 50, 51, 52, 53, 54, 55, 56, 57]⟩ : ByteArray) : Int)))) (when (decide (0 ≤ (IntKind.wrap .i64 (b - 1))) && decide ((IntKind.wrap .i64 (b - 1)) < 20)) (when ((isAg 20 d) && true) (when (Nat.blt (0 + ((Int.toNat (IntKind.wrap .i64 (b - 1))) * 1)) 20) (ifB ((IntKind.wrap .i64 (Int.tdiv a 10)) == 0)
 (when (decide (0 ≤ (IntKind.wrap .i64 (b - 1))) && decide ((IntKind.wrap .i64 (b - 1)) ≤ 20)) (when (List.all (toAg (.ag (List.set (toAg d) (0 + ((Int.toNat (IntKind.wrap .i64 (b - 1))) * 1)) (.int .u8 (((Array.getD (ByteArray.data (⟨#[48, 49, 50, 51, 52, 53, 54, 55, 56, 57]⟩ : ByteArray)) (Int.toNat (Int.tmod a 10)) 0).toNat : Nat) : Int))))) fun c => fits 1 false c) (when (List.all (List.drop (Int.toNat (IntKind.wrap .i64 (b - 1))) (toAg (.ag (List.set (toAg d) (0 + ((Int.toNat (IntKind.wrap .i64 (b - 1))) * 1)) (.int .u8 (((Array.getD (ByteArray.data (⟨#[48, 49, 50, 51, 52, 53, 54, 55, 56, 57]⟩ : ByteArray)) (Int.toNat (Int.tmod a 10)) 0).toNat : Nat) : Int)))))) (fits 1 false)) (when (List.all (List.drop (Int.toNat (IntKind.wrap .i64 (b - 1))) (toAg (.ag (List.set (toAg d) (0 + ((Int.toNat (IntKind.wrap .i64 (b - 1))) * 1)) (.int .u8 (((Array.getD (ByteArray.data (⟨#[48, 49, 50, 51, 52, 53, 54, 55, 56, 57]⟩ : ByteArray)) (Int.toNat (Int.tmod a 10)) 0).toNat : Nat) : Int)))))) (isInt .u8)) (some (.ret, X_num_digits_1_0 (⟨(List.map (fun e => UInt8.ofNat (toInt e).toNat) (List.drop (Int.toNat (IntKind.wrap .i64 (b - 1))) (toAg (.ag (List.set (toAg d) (0 + ((Int.toNat (IntKind.wrap .i64 (b - 1))) * 1)) (.int .u8 (((Array.getD (ByteArray.data (⟨#[48, 49, 50, 51, 52, 53, 54, 55, 56, 57]⟩ : ByteArray)) (Int.toNat (Int.tmod a 10)) 0).toNat : Nat) : Int))))))).toArray⟩ : ByteArray)))))))
 (L_num_digits_1_0 R k w n (IntKind.wrap .i64 (Int.tdiv a 10)) (IntKind.wrap .i64 (b - 1)) (.ag (List.set (toAg d) (0 + ((Int.toNat (IntKind.wrap .i64 (b - 1))) * 1)) (.int .u8 (((Array.getD (ByteArray.data (⟨#[48, 49, 50, 51, 52, 53, 54, 55, 56, 57]⟩ : ByteArray)) (Int.toNat (Int.tmod a 10)) 0).toNat : Nat) : Int))))))))) := by kernel_rfl
theorem X_num_digits_1_0_eq (R : Orc) (k : Nat) (w : Bool) (a : ByteArray) : K_num_digits_1 R k w .ret (X_num_digits_1_0 a) = some ([.fz (.str a)], []) := by kernel_rfl
def C_ref09_Join : ACode := codeOf 90 Try.f90
def A_ref09_Join : AFunc := ⟨3, [(.tmp 6, .fz)], C_ref09_Join, none⟩
theorem E_ref09_Join (R : Orc) (k : Nat) (w : Bool) (a : List FV) (b c : Int) : callL R k w A_ref09_Join [.fz (.sl a), .fz (.int .i64 b), .fz (.int .i64 c)] = onR (R N_ref01_Join [.fz (.sl a), .fz (.int .i64 b), .fz (.int .i64 c)]) fun r0 => when (List.isEmpty r0.2 && allF [.fz] r0.1) (when (isSl (toF (List.getD r0.1 0 em))) (when (decide (0 < (List.length (toSl (toF (List.getD r0.1 0 em))) : Int))) (when (fits 1 false (List.getD (toSl (toF (List.getD r0.1 0 em))) 0 nilp)) (when (isInt .i64 (List.getD (toSl (toF (List.getD r0.1 0 em))) 0 nilp)) (some ([.fz (.int .i64 (toInt (List.getD (toSl (toF (List.getD r0.1 0 em))) 0 nilp)))], [])))))) := by kernel_rfl
def C_ref05_zero : ACode := codeOf 91 Try.f91
def A_ref05_zero_j1 : ACode := C_ref05_zero.at [1, 1, 0]
def A_ref05_zero : AFunc := ⟨1, [(.tmp 2, .fz)], C_ref05_zero, none⟩
def J_ref05_zero_1_0 (R : Orc) (k : Nat) (w : Bool) (a b c : Int) (d : ByteArray) (e f : List FV) := execL R k w [] A_ref05_zero_j1 Ans ⟨[(1, .ptr 4096 0 0)], [(4095, .dead), (4096, .var 6 true (.fz (.ag [.int .i64 a, .int .i64 b, .int .i64 c, .str d, .sl e, .sl f])))]⟩ (kFin R [(.tmp 2, .fz)] [])
theorem E_ref05_zero (R : Orc) (k : Nat) (w : Bool) (a b c : Int) (d : ByteArray) (e f : List FV) : callL R k w A_ref05_zero [.fz (.ag [.int .i64 a, .int .i64 b, .int .i64 c, .str d, .sl e, .sl f])] = ifB (a != 3)
 (ifB (b != 0)
 (some ([.fz (.bool false)], []))
 (ifB (c != 0)
 (some ([.fz (.bool false)], []))
 (ifB (a != 4)
 (ifB (a != 7)
 (ifB (!(ByteArray.toList d == ByteArray.toList (⟨#[]⟩ : ByteArray)))
 (some ([.fz (.bool false)], []))
 (jump w (J_ref05_zero_1_0 R k w a b c d e f)))
 (jump w (J_ref05_zero_1_0 R k w a b c d e f)))
 (jump w (J_ref05_zero_1_0 R k w a b c d e f)))))
 (ifB (a != 4)
 (ifB (a != 7)
 (ifB (!(ByteArray.toList d == ByteArray.toList (⟨#[]⟩ : ByteArray)))
 (some ([.fz (.bool false)], []))
 (jump w (J_ref05_zero_1_0 R k w a b c d e f)))
 (jump w (J_ref05_zero_1_0 R k w a b c d e f)))
 (jump w (J_ref05_zero_1_0 R k w a b c d e f))) := by kernel_rfl
theorem J_ref05_zero_1_0_eq (R : Orc) (k : Nat) (w : Bool) (a b c : Int) (d : ByteArray) (e f : List FV) : J_ref05_zero_1_0 R k w a b c d e f = ifB (a == 5)
 (ifB (a == 6)
 (some ([.fz (.bool true)], []))
 (some ([.fz (.bool ((List.length f : Int) == 0))], [])))
 (ifB (a == 6)
 (ifB (a == 6)
 (some ([.fz (.bool true)], []))
 (some ([.fz (.bool ((List.length f : Int) == 0))], [])))
 (ifB ((List.length e : Int) == 0)
 (ifB (a == 6)
 (some ([.fz (.bool true)], []))
 (some ([.fz (.bool ((List.length f : Int) == 0))], [])))
 (some ([.fz (.bool false)], [])))) := by kernel_rfl
def C_ref06_Text : ACode := codeOf 92 Try.f92
def A_ref06_Text_b1 : ACode := C_ref06_Text.at [1, 1, 1, 0, 1, 0, 0]
def A_ref06_Text_s4 : ACode := C_ref06_Text.at [1, 1, 1, 1]
def A_ref06_Text : AFunc := ⟨1, [(.tmp 2, .fz)], C_ref06_Text, none⟩
def K_ref06_Text_1 (R : Orc) (k : Nat) (w : Bool) : AExit → St → Option Ans := (kBlk 1 (kSeq R k w [] A_ref06_Text_s4 (kFin R [(.tmp 2, .fz)] [])))
def L_ref06_Text_1_0 (R : Orc) (k : Nat) (w : Bool) (n : Nat) (a : ByteArray) (b c d e : Int) (f : ByteArray) (g h : List FV) := loopL R k w [] [1, 3, 4] [1, 3] A_ref06_Text_b1 n ⟨[(1, .ptr 4096 0 0), (3, .fz (.str a)), (4, .fz (.int .i64 b))], [(4095, .dead), (4096, .var 6 true (.fz (.ag [.int .i64 c, .int .i64 d, .int .i64 e, .str f, .sl g, .sl h])))]⟩
theorem E_ref06_Text (R : Orc) (k : Nat) (w : Bool) (a b c : Int) (d : ByteArray) (e f : List FV) : callL R k w A_ref06_Text [.fz (.ag [.int .i64 a, .int .i64 b, .int .i64 c, .str d, .sl e, .sl f])] = ifB (a == 0)
 (some ([.fz (.str (⟨#[110, 117, 108, 108]⟩ : ByteArray))], []))
 (ifB (a == 1)
 (some ([.fz (.str (⟨#[102, 97, 108, 115, 101]⟩ : ByteArray))], []))
 (ifB (a == 2)
 (some ([.fz (.str (⟨#[116, 114, 117, 101]⟩ : ByteArray))], []))
 (ifB (a == 3)
 (onR (R N_ref04_Text [.fz (.ag [.int .i64 b, .int .i64 c])]) fun r0 => when (List.isEmpty r0.2 && allF [.fz] r0.1) (when (isStr (toF (List.getD r0.1 0 em))) (some ([.fz (.str (toStr (toF (List.getD r0.1 0 em))))], []))))
 (ifB (a == 4)
 (onR (R N_ref06_quote [.fz (.str d)]) fun r1 => when (List.isEmpty r1.2 && allF [.fz] r1.1) (when (isStr (toF (List.getD r1.1 0 em))) (some ([.fz (.str (toStr (toF (List.getD r1.1 0 em))))], []))))
 (onL (L_ref06_Text_1_0 R k w k (⟨#[]⟩ : ByteArray) 0 a b c d e f) (K_ref06_Text_1 R k w)))))) := by kernel_rfl
def C_ref11_sees : ACode := codeOf 93 Try.f93
def A_ref11_sees : AFunc := ⟨3, [(.tmp 6, .fz)], C_ref11_sees, none⟩
theorem E_ref11_sees (R : Orc) (k : Nat) (w : Bool) (a : List FV) (b c : Int) : callL R k w A_ref11_sees [.fz (.sl a), .fz (.int .i64 b), .fz (.int .i64 c)] = ifB (decide (c ≥ 0))
 (ifB (decide (c < (List.length a : Int)))
 (ifB (decide (b ≥ 0))
 (ifB (decide (b < (List.length a : Int)))
 (when ((decide (0 ≤ b)) && (decide (b < (List.length a : Int)))) (when (fits 1 false (List.getD a (Int.toNat b) nilp)) (when (isSl (List.getD a (Int.toNat b) nilp)) (when ((decide (0 ≤ c)) && (decide (c < (List.length (toSl (List.getD a (Int.toNat b) nilp)) : Int)))) (when (fits 1 false (List.getD (toSl (List.getD a (Int.toNat b) nilp)) (Int.toNat c) nilp)) (when (isBool (List.getD (toSl (List.getD a (Int.toNat b) nilp)) (Int.toNat c) nilp)) (some ([.fz (.bool (toBool (List.getD (toSl (List.getD a (Int.toNat b) nilp)) (Int.toNat c) nilp)))], []))))))))
 (some ([.fz (.bool false)], [])))
 (some ([.fz (.bool false)], [])))
 (some ([.fz (.bool false)], [])))
 (some ([.fz (.bool false)], [])) := by kernel_rfl
def C_ref09_Top : ACode := codeOf 94 Try.f94
def A_ref09_Top_b1 : ACode := C_ref09_Top.at [1, 0, 1, 0, 0, 1, 0, 0, 1, 0, 1, 0, 0]
def A_ref09_Top_s1 : ACode := C_ref09_Top.at [1, 0, 1, 0, 0, 1, 0, 0, 1, 1]
def A_ref09_Top_s2 : ACode := C_ref09_Top.at [1, 0, 1, 0, 0, 1, 1]
def A_ref09_Top_b2 : ACode := C_ref09_Top.at [1, 0, 1, 0, 0]
def A_ref09_Top_s3 : ACode := C_ref09_Top.at [1, 1]
def A_ref09_Top : AFunc := ⟨1, [(.tmp 2, .fz)], C_ref09_Top, none⟩
def K_ref09_Top_2 (R : Orc) (k : Nat) (w : Bool) : AExit → St → Option Ans := (kBlk 0 (kSeq R k w [] A_ref09_Top_s3 (kFin R [(.tmp 2, .fz)] [])))
def L_ref09_Top_2_0 (R : Orc) (k : Nat) (w : Bool) (n : Nat) (a : List FV) (b : Int) := loopL R k w [] [0, 3] [2] A_ref09_Top_b2 n ⟨[(0, .fz (.sl a)), (3, .fz (.int .i64 b))], [(4095, .dead)]⟩
def K_ref09_Top_1 (R : Orc) (k : Nat) (w : Bool) (n : Nat) : AExit → St → Option (AExit × St) := (kBlk 2 (kSeq R k w [] A_ref09_Top_s1 (kBlk 1 (kSeq R k w [] A_ref09_Top_s2 (kLoop R k w [] [0, 3] [2] A_ref09_Top_b2 n)))))
def L_ref09_Top_1_0 (R : Orc) (k : Nat) (w : Bool) (n : Nat) (a : List FV) (b : Int) (c : Bool) (d : Int) := loopL R k w [] [0, 3, 4, 5] [0, 3, 4] A_ref09_Top_b1 n ⟨[(0, .fz (.sl a)), (3, .fz (.int .i64 b)), (4, .fz (.bool c)), (5, .fz (.int .i64 d))], [(4095, .dead)]⟩
def X_ref09_Top_2_0 : St := ⟨[], [(4095, .dead)]⟩
def X_ref09_Top_1_0 (a : List FV) (b : Int) (c : Bool) : St := ⟨[(0, .fz (.sl a)), (3, .fz (.int .i64 b)), (4, .fz (.bool c))], [(4095, .dead)]⟩
def X_ref09_Top_2_1 (a : Int) : St := ⟨[(2, .fz (.int .i64 a))], [(4095, .dead)]⟩
theorem E_ref09_Top (R : Orc) (k : Nat) (w : Bool) (a : List FV) : callL R k w A_ref09_Top [.fz (.sl a)] = onL (L_ref09_Top_2_0 R k w k a 0) (K_ref09_Top_2 R k w) := by kernel_rfl
theorem L_ref09_Top_2_0_eq (R : Orc) (k : Nat) (w : Bool) (n : Nat) (a : List FV) (b : Int) : L_ref09_Top_2_0 R k w (n + 1) a b = ifB (decide (b < (List.length a : Int)))
 (onL (L_ref09_Top_1_0 R k w k a b true 0) (K_ref09_Top_1 R k w n))
 (some ((.exit 0), X_ref09_Top_2_0)) := by kernel_rfl
theorem L_ref09_Top_1_0_eq (R : Orc) (k : Nat) (w : Bool) (n : Nat) (a : List FV) (b : Int) (c : Bool) (d : Int) : L_ref09_Top_1_0 R k w (n + 1) a b c d = ifB (decide (d < (List.length a : Int)))
 (ifB c
 (when ((decide (0 ≤ d)) && (decide (d < (List.length a : Int)))) (when (fits 1 false (List.getD a (Int.toNat d) nilp)) (when (isSl (List.getD a (Int.toNat d) nilp)) (when ((decide (0 ≤ b)) && (decide (b < (List.length (toSl (List.getD a (Int.toNat d) nilp)) : Int)))) (when (fits 1 false (List.getD (toSl (List.getD a (Int.toNat d) nilp)) (Int.toNat b) nilp)) (when (isBool (List.getD (toSl (List.getD a (Int.toNat d) nilp)) (Int.toNat b) nilp)) (L_ref09_Top_1_0 R k w n a b (toBool (List.getD (toSl (List.getD a (Int.toNat d) nilp)) (Int.toNat b) nilp)) (IntKind.wrap .i64 (d + 1)))))))))
 (L_ref09_Top_1_0 R k w n a b false (IntKind.wrap .i64 (d + 1))))
 (some ((.exit 2), X_ref09_Top_1_0 a b c)) := by kernel_rfl
theorem X_ref09_Top_1_0_eq (R : Orc) (k : Nat) (w : Bool) (n : Nat) (a : List FV) (b : Int) (c : Bool) : K_ref09_Top_1 R k w n (.exit 2) (X_ref09_Top_1_0 a b c) = ifB c
 (some (.ret, X_ref09_Top_2_1 b))
 (L_ref09_Top_2_0 R k w n a (IntKind.wrap .i64 (b + 1))) := by kernel_rfl
theorem X_ref09_Top_2_1_eq (R : Orc) (k : Nat) (w : Bool) (a : Int) : K_ref09_Top_2 R k w .ret (X_ref09_Top_2_1 a) = some ([.fz (.int .i64 a)], []) := by kernel_rfl
def C_utf_size : ACode := codeOf 97 Try.f97
def A_utf_size_j1 : ACode := C_utf_size.at [1, 1, 0, 0, 1, 1, 1, 0, 1, 0, 1, 0, 1, 1, 0]
def A_utf_size_j2 : ACode := C_utf_size.at [1, 1, 0, 0, 1, 1, 1, 0, 1, 0, 1, 0]
def A_utf_size_j3 : ACode := C_utf_size.at [1, 1, 0, 0, 1, 1, 1, 0, 1, 1, 0, 1, 0, 1, 0, 1, 1, 0]
def A_utf_size_j4 : ACode := C_utf_size.at [1, 1, 0, 0, 1, 1, 1, 0, 1, 1, 0, 1, 0, 1, 0]
def A_utf_size_s5 : ACode := C_utf_size.at [1, 1, 0, 0, 1, 1, 1, 0, 1, 1, 0, 1, 1]
def A_utf_size_j6 : ACode := C_utf_size.at [1, 1, 0, 0, 1, 1, 1, 0, 1, 1, 0]
def A_utf_size_s7 : ACode := C_utf_size.at [1, 1, 0, 0, 1, 1, 1, 0, 1, 1]
def A_utf_size_j8 : ACode := C_utf_size.at [1, 1, 0, 0, 1, 1, 1, 0]
def A_utf_size_s9 : ACode := C_utf_size.at [1, 1, 1]
def A_utf_size : AFunc := ⟨1, [(.tmp 2, .fz)], C_utf_size, none⟩
def J_utf_size_8_0 (R : Orc) (k : Nat) (w : Bool) (a : ByteArray) (b : Int) (c : Bool) := execL R k w [] A_utf_size_j8 Ans ⟨[(0, .fz (.str a)), (3, .fz (.int .u8 b)), (9, .fz (.bool c))], [(4095, .dead)]⟩ (kBlk 0 (kSeq R k w [] A_utf_size_s9 (kFin R [(.tmp 2, .fz)] [])))
def J_utf_size_2_0 (R : Orc) (k : Nat) (w : Bool) (a : ByteArray) (b : Int) (c : Bool) := execL R k w [] A_utf_size_j2 Ans ⟨[(0, .fz (.str a)), (3, .fz (.int .u8 b)), (20, .fz (.bool c))], [(4095, .dead)]⟩ (kSeq R k w [] A_utf_size_s7 (kBlk 0 (kSeq R k w [] A_utf_size_s9 (kFin R [(.tmp 2, .fz)] []))))
def J_utf_size_6_0 (R : Orc) (k : Nat) (w : Bool) (a : ByteArray) (b : Int) (c : Bool) := execL R k w [] A_utf_size_j6 Ans ⟨[(0, .fz (.str a)), (3, .fz (.int .u8 b)), (20, .fz (.bool c))], [(4095, .dead)]⟩ (kBlk 0 (kSeq R k w [] A_utf_size_s9 (kFin R [(.tmp 2, .fz)] [])))
def J_utf_size_1_0 (R : Orc) (k : Nat) (w : Bool) (a : ByteArray) (b : Int) (c : Bool) := execL R k w [] A_utf_size_j1 Ans ⟨[(0, .fz (.str a)), (3, .fz (.int .u8 b)), (20, .fz (.bool c))], [(4095, .dead)]⟩ (kSeq R k w [] A_utf_size_s7 (kBlk 0 (kSeq R k w [] A_utf_size_s9 (kFin R [(.tmp 2, .fz)] []))))
def J_utf_size_4_0 (R : Orc) (k : Nat) (w : Bool) (a : ByteArray) (b : Int) (c : Bool) := execL R k w [] A_utf_size_j4 Ans ⟨[(0, .fz (.str a)), (3, .fz (.int .u8 b)), (47, .fz (.bool c))], [(4095, .dead)]⟩ (kSeq R k w [] A_utf_size_s5 (kBlk 0 (kSeq R k w [] A_utf_size_s9 (kFin R [(.tmp 2, .fz)] []))))
def J_utf_size_3_0 (R : Orc) (k : Nat) (w : Bool) (a : ByteArray) (b : Int) (c : Bool) := execL R k w [] A_utf_size_j3 Ans ⟨[(0, .fz (.str a)), (3, .fz (.int .u8 b)), (47, .fz (.bool c))], [(4095, .dead)]⟩ (kSeq R k w [] A_utf_size_s5 (kBlk 0 (kSeq R k w [] A_utf_size_s9 (kFin R [(.tmp 2, .fz)] []))))
theorem E_utf_size (R : Orc) (k : Nat) (w : Bool) (a : ByteArray) : callL R k w A_utf_size [.fz (.str a)] = when (decide (0 < (ByteArray.size a : Int))) (ifB (decide ((((Array.getD (ByteArray.data a) 0 0).toNat : Nat) : Int) < 128))
 (some ([.fz (.int .i64 1)], []))
 (ifB (decide ((((Array.getD (ByteArray.data a) 0 0).toNat : Nat) : Int) ≥ 194))
 (ifB (decide ((((Array.getD (ByteArray.data a) 0 0).toNat : Nat) : Int) ≤ 223))
 (onR (R N_utf_tail [.fz (.str a), .fz (.int .i64 1), .fz (.int .u8 128), .fz (.int .u8 191)]) fun r0 => when (List.isEmpty r0.2 && allF [.fz] r0.1) (when (isBool (toF (List.getD r0.1 0 em))) (jump w (J_utf_size_8_0 R k w a (((Array.getD (ByteArray.data a) 0 0).toNat : Nat) : Int) (toBool (toF (List.getD r0.1 0 em)))))))
 (jump w (J_utf_size_8_0 R k w a (((Array.getD (ByteArray.data a) 0 0).toNat : Nat) : Int) false)))
 (jump w (J_utf_size_8_0 R k w a (((Array.getD (ByteArray.data a) 0 0).toNat : Nat) : Int) false)))) := by kernel_rfl
theorem J_utf_size_8_0_eq (R : Orc) (k : Nat) (w : Bool) (a : ByteArray) (b : Int) (c : Bool) : J_utf_size_8_0 R k w a b c = ifB c
 (some ([.fz (.int .i64 2)], []))
 (ifB (b == 224)
 (onR (R N_utf_tail [.fz (.str a), .fz (.int .i64 2), .fz (.int .u8 160), .fz (.int .u8 191)]) fun r1 => when (List.isEmpty r1.2 && allF [.fz] r1.1) (when (isBool (toF (List.getD r1.1 0 em))) (jump w (J_utf_size_2_0 R k w a b (toBool (toF (List.getD r1.1 0 em)))))))
 (jump w (J_utf_size_2_0 R k w a b false))) := by kernel_rfl
theorem J_utf_size_2_0_eq (R : Orc) (k : Nat) (w : Bool) (a : ByteArray) (b : Int) (c : Bool) : J_utf_size_2_0 R k w a b c = ifB c
 (jump w (J_utf_size_6_0 R k w a b true))
 (ifB (decide (b ≥ 225))
 (ifB (decide (b ≤ 239))
 (ifB (b != 237)
 (onR (R N_utf_tail [.fz (.str a), .fz (.int .i64 2), .fz (.int .u8 128), .fz (.int .u8 191)]) fun r2 => when (List.isEmpty r2.2 && allF [.fz] r2.1) (when (isBool (toF (List.getD r2.1 0 em))) (jump w (J_utf_size_1_0 R k w a b (toBool (toF (List.getD r2.1 0 em)))))))
 (jump w (J_utf_size_1_0 R k w a b false)))
 (jump w (J_utf_size_1_0 R k w a b false)))
 (jump w (J_utf_size_1_0 R k w a b false))) := by kernel_rfl
theorem J_utf_size_6_0_eq (R : Orc) (k : Nat) (w : Bool) (a : ByteArray) (b : Int) (c : Bool) : J_utf_size_6_0 R k w a b c = ifB c
 (some ([.fz (.int .i64 3)], []))
 (ifB (b == 240)
 (onR (R N_utf_tail [.fz (.str a), .fz (.int .i64 3), .fz (.int .u8 144), .fz (.int .u8 191)]) fun r3 => when (List.isEmpty r3.2 && allF [.fz] r3.1) (when (isBool (toF (List.getD r3.1 0 em))) (jump w (J_utf_size_4_0 R k w a b (toBool (toF (List.getD r3.1 0 em)))))))
 (jump w (J_utf_size_4_0 R k w a b false))) := by kernel_rfl
theorem J_utf_size_1_0_eq (R : Orc) (k : Nat) (w : Bool) (a : ByteArray) (b : Int) (c : Bool) : J_utf_size_1_0 R k w a b c = ifB c
 (jump w (J_utf_size_6_0 R k w a b true))
 (ifB (b == 237)
 (onR (R N_utf_tail [.fz (.str a), .fz (.int .i64 2), .fz (.int .u8 128), .fz (.int .u8 159)]) fun r4 => when (List.isEmpty r4.2 && allF [.fz] r4.1) (when (isBool (toF (List.getD r4.1 0 em))) (jump w (J_utf_size_6_0 R k w a b (toBool (toF (List.getD r4.1 0 em)))))))
 (jump w (J_utf_size_6_0 R k w a b false))) := by kernel_rfl
theorem J_utf_size_4_0_eq (R : Orc) (k : Nat) (w : Bool) (a : ByteArray) (b : Int) (c : Bool) : J_utf_size_4_0 R k w a b c = ifB c
 (some ([.fz (.int .i64 4)], []))
 (ifB (decide (b ≥ 241))
 (ifB (decide (b ≤ 243))
 (onR (R N_utf_tail [.fz (.str a), .fz (.int .i64 3), .fz (.int .u8 128), .fz (.int .u8 191)]) fun r5 => when (List.isEmpty r5.2 && allF [.fz] r5.1) (when (isBool (toF (List.getD r5.1 0 em))) (jump w (J_utf_size_3_0 R k w a b (toBool (toF (List.getD r5.1 0 em)))))))
 (jump w (J_utf_size_3_0 R k w a b false)))
 (jump w (J_utf_size_3_0 R k w a b false))) := by kernel_rfl
theorem J_utf_size_3_0_eq (R : Orc) (k : Nat) (w : Bool) (a : ByteArray) (b : Int) (c : Bool) : J_utf_size_3_0 R k w a b c = ifB c
 (some ([.fz (.int .i64 4)], []))
 (ifB (b == 244)
 (onR (R N_utf_tail [.fz (.str a), .fz (.int .i64 3), .fz (.int .u8 128), .fz (.int .u8 143)]) fun r6 => when (List.isEmpty r6.2 && allF [.fz] r6.1) (when (isBool (toF (List.getD r6.1 0 em))) (ifB (toBool (toF (List.getD r6.1 0 em)))
 (some ([.fz (.int .i64 4)], []))
 (some ([.fz (.int .i64 0)], [])))))
 (some ([.fz (.int .i64 0)], []))) := by kernel_rfl
def C_strings_HasPrefix : ACode := codeOf 99 Try.f99
def A_strings_HasPrefix : AFunc := ⟨2, [(.tmp 4, .fz)], C_strings_HasPrefix, none⟩
theorem E_strings_HasPrefix (R : Orc) (k : Nat) (w : Bool) (a b : ByteArray) : callL R k w A_strings_HasPrefix [.fz (.str a), .fz (.str b)] = onR (R N_internal_stringslite_HasPrefix [.fz (.str a), .fz (.str b)]) fun r0 => when (List.isEmpty r0.2 && allF [.fz] r0.1) (when (isBool (toF (List.getD r0.1 0 em))) (some ([.fz (.bool (toBool (toF (List.getD r0.1 0 em))))], []))) := by kernel_rfl
def C_ref01_Join : ACode := codeOf 101 Try.f101
def A_ref01_Join_b1 : ACode := C_ref01_Join.at [1, 1, 0, 1, 0, 0, 1, 0, 0, 1, 0, 0, 1, 0, 0]
def A_ref01_Join_s1 : ACode := C_ref01_Join.at [1, 1, 0, 1, 0, 0, 1, 0, 0, 1, 0, 1]
def A_ref01_Join_j2 : ACode := C_ref01_Join.at [1, 1, 0, 1, 0, 0, 1, 0, 0, 1, 0]
def A_ref01_Join_s3 : ACode := C_ref01_Join.at [1, 1, 0, 1, 0, 0, 1, 1]
def A_ref01_Join_b2 : ACode := C_ref01_Join.at [1, 1, 0, 1, 0, 0]
def A_ref01_Join_s4 : ACode := C_ref01_Join.at [1, 1, 1]
def A_ref01_Join : AFunc := ⟨3, [(.tmp 6, .fz)], C_ref01_Join, none⟩
def K_ref01_Join_2 (R : Orc) (k : Nat) (w : Bool) : AExit → St → Option Ans := (kBlk 0 (kSeq R k w [] A_ref01_Join_s4 (kFin R [(.tmp 6, .fz)] [])))
def L_ref01_Join_2_0 (R : Orc) (k : Nat) (w : Bool) (n : Nat) (a : List FV) (b c d : Int) := loopL R k w [] [0, 1, 2, 7, 8] [7] A_ref01_Join_b2 n ⟨[(0, .fz (.sl a)), (1, .fz (.int .i64 b)), (2, .fz (.int .i64 c)), (7, .nils), (8, .fz (.int .i64 d))], [(4095, .dead)]⟩
def J_ref01_Join_2_0 (R : Orc) (k : Nat) (w : Bool) (n : Nat) (a : List FV) (b c d : Int) (e : Bool) := execL R k w [] A_ref01_Join_j2 (AExit × St) ⟨[(0, .fz (.sl a)), (1, .fz (.int .i64 b)), (2, .fz (.int .i64 c)), (7, .nils), (8, .fz (.int .i64 d)), (9, .fz (.bool e))], [(4095, .dead)]⟩ (kBlk 1 (kSeq R k w [] A_ref01_Join_s3 (kLoop R k w [] [0, 1, 2, 7, 8] [7] A_ref01_Join_b2 n)))
def X_ref01_Join_2_0 : St := ⟨[(7, .nils)], [(4095, .dead)]⟩
def K_ref01_Join_1 (R : Orc) (k : Nat) (w : Bool) (n : Nat) : AExit → St → Option (AExit × St) := (kBlk 2 (kSeq R k w [] A_ref01_Join_s1 (kBlk 1 (kSeq R k w [] A_ref01_Join_s3 (kLoop R k w [] [0, 1, 2, 7, 8] [7] A_ref01_Join_b2 n)))))
def L_ref01_Join_1_0 (R : Orc) (k : Nat) (w : Bool) (n : Nat) (a : List FV) (b c d : Int) (e : Bool) (f : Int) := loopL R k w [] [0, 1, 2, 7, 8, 9, 10] [0, 1, 2, 7, 8, 9] A_ref01_Join_b1 n ⟨[(0, .fz (.sl a)), (1, .fz (.int .i64 b)), (2, .fz (.int .i64 c)), (7, .nils), (8, .fz (.int .i64 d)), (9, .fz (.bool e)), (10, .fz (.int .i64 f))], [(4095, .dead)]⟩
def X_ref01_Join_1_0 (a : List FV) (b c d : Int) (e : Bool) : St := ⟨[(0, .fz (.sl a)), (1, .fz (.int .i64 b)), (2, .fz (.int .i64 c)), (7, .nils), (8, .fz (.int .i64 d)), (9, .fz (.bool e))], [(4095, .dead)]⟩
def L_ref01_Join_2_1 (R : Orc) (k : Nat) (w : Bool) (n : Nat) (a : List FV) (b c d : Int) (e : List FV) := loopL R k w [] [0, 1, 2, 7, 8] [7] A_ref01_Join_b2 n ⟨[(0, .fz (.sl a)), (1, .fz (.int .i64 b)), (2, .fz (.int .i64 c)), (7, .rw 4096), (8, .fz (.int .i64 d))], [(4095, .dead), (4096, .row 1 false e)]⟩
def J_ref01_Join_2_1 (R : Orc) (k : Nat) (w : Bool) (n : Nat) (a : List FV) (b c d : Int) (e : Bool) (f : List FV) := execL R k w [] A_ref01_Join_j2 (AExit × St) ⟨[(0, .fz (.sl a)), (1, .fz (.int .i64 b)), (2, .fz (.int .i64 c)), (7, .rw 4096), (8, .fz (.int .i64 d)), (9, .fz (.bool e))], [(4095, .dead), (4096, .row 1 false f)]⟩ (kBlk 1 (kSeq R k w [] A_ref01_Join_s3 (kLoop R k w [] [0, 1, 2, 7, 8] [7] A_ref01_Join_b2 n)))
def X_ref01_Join_2_1 (a : List FV) : St := ⟨[(7, .rw 4096)], [(4095, .dead), (4096, .row 1 false a)]⟩
def L_ref01_Join_1_1 (R : Orc) (k : Nat) (w : Bool) (n : Nat) (a : List FV) (b c d : Int) (e : Bool) (f : Int) (g : List FV) := loopL R k w [] [0, 1, 2, 7, 8, 9, 10] [0, 1, 2, 7, 8, 9] A_ref01_Join_b1 n ⟨[(0, .fz (.sl a)), (1, .fz (.int .i64 b)), (2, .fz (.int .i64 c)), (7, .rw 4096), (8, .fz (.int .i64 d)), (9, .fz (.bool e)), (10, .fz (.int .i64 f))], [(4095, .dead), (4096, .row 1 false g)]⟩
def X_ref01_Join_1_1 (a : List FV) (b c d : Int) (e : Bool) (f : List FV) : St := ⟨[(0, .fz (.sl a)), (1, .fz (.int .i64 b)), (2, .fz (.int .i64 c)), (7, .rw 4096), (8, .fz (.int .i64 d)), (9, .fz (.bool e))], [(4095, .dead), (4096, .row 1 false f)]⟩
theorem E_ref01_Join (R : Orc) (k : Nat) (w : Bool) (a : List FV) (b c : Int) : callL R k w A_ref01_Join [.fz (.sl a), .fz (.int .i64 b), .fz (.int .i64 c)] = onL (L_ref01_Join_2_0 R k w k a b c 0) (K_ref01_Join_2 R k w) := by kernel_rfl
theorem L_ref01_Join_2_0_eq (R : Orc) (k : Nat) (w : Bool) (n : Nat) (a : List FV) (b c d : Int) : L_ref01_Join_2_0 R k w (n + 1) a b c d = ifB (decide (d < (List.length a : Int)))
 (when ((decide (0 ≤ b)) && (decide (b < (List.length a : Int)))) (when (fits 1 false (List.getD a (Int.toNat b) nilp)) (when (isSl (List.getD a (Int.toNat b) nilp)) (when ((decide (0 ≤ d)) && (decide (d < (List.length (toSl (List.getD a (Int.toNat b) nilp)) : Int)))) (when (fits 1 false (List.getD (toSl (List.getD a (Int.toNat b) nilp)) (Int.toNat d) nilp)) (when (isBool (List.getD (toSl (List.getD a (Int.toNat b) nilp)) (Int.toNat d) nilp)) (ifB (toBool (List.getD (toSl (List.getD a (Int.toNat b) nilp)) (Int.toNat d) nilp))
 (when ((decide (0 ≤ c)) && (decide (c < (List.length a : Int)))) (when (fits 1 false (List.getD a (Int.toNat c) nilp)) (when (isSl (List.getD a (Int.toNat c) nilp)) (when ((decide (0 ≤ d)) && (decide (d < (List.length (toSl (List.getD a (Int.toNat c) nilp)) : Int)))) (when (fits 1 false (List.getD (toSl (List.getD a (Int.toNat c) nilp)) (Int.toNat d) nilp)) (when (isBool (List.getD (toSl (List.getD a (Int.toNat c) nilp)) (Int.toNat d) nilp)) (jump w (J_ref01_Join_2_0 R k w n a b c d (toBool (List.getD (toSl (List.getD a (Int.toNat c) nilp)) (Int.toNat d) nilp))))))))))
 (jump w (J_ref01_Join_2_0 R k w n a b c d false)))))))))
 (some ((.exit 0), X_ref01_Join_2_0)) := by kernel_rfl
theorem J_ref01_Join_2_0_eq (R : Orc) (k : Nat) (w : Bool) (n : Nat) (a : List FV) (b c d : Int) (e : Bool) : J_ref01_Join_2_0 R k w n a b c d e = onL (L_ref01_Join_1_0 R k w k a b c d e 0) (K_ref01_Join_1 R k w n) := by kernel_rfl
theorem X_ref01_Join_2_0_eq (R : Orc) (k : Nat) (w : Bool) : K_ref01_Join_2 R k w (.exit 0) (X_ref01_Join_2_0) = some ([.fz (.sl [])], []) := by kernel_rfl
theorem L_ref01_Join_1_0_eq (R : Orc) (k : Nat) (w : Bool) (n : Nat) (a : List FV) (b c d : Int) (e : Bool) (f : Int) : L_ref01_Join_1_0 R k w (n + 1) a b c d e f = ifB (decide (f < (List.length a : Int)))
 (when ((decide (0 ≤ b)) && (decide (b < (List.length a : Int)))) (when (fits 1 false (List.getD a (Int.toNat b) nilp)) (when (isSl (List.getD a (Int.toNat b) nilp)) (when ((decide (0 ≤ f)) && (decide (f < (List.length (toSl (List.getD a (Int.toNat b) nilp)) : Int)))) (when (fits 1 false (List.getD (toSl (List.getD a (Int.toNat b) nilp)) (Int.toNat f) nilp)) (when (isBool (List.getD (toSl (List.getD a (Int.toNat b) nilp)) (Int.toNat f) nilp)) (ifB (toBool (List.getD (toSl (List.getD a (Int.toNat b) nilp)) (Int.toNat f) nilp))
 (when ((decide (0 ≤ c)) && (decide (c < (List.length a : Int)))) (when (fits 1 false (List.getD a (Int.toNat c) nilp)) (when (isSl (List.getD a (Int.toNat c) nilp)) (when ((decide (0 ≤ f)) && (decide (f < (List.length (toSl (List.getD a (Int.toNat c) nilp)) : Int)))) (when (fits 1 false (List.getD (toSl (List.getD a (Int.toNat c) nilp)) (Int.toNat f) nilp)) (when (isBool (List.getD (toSl (List.getD a (Int.toNat c) nilp)) (Int.toNat f) nilp)) (ifB (toBool (List.getD (toSl (List.getD a (Int.toNat c) nilp)) (Int.toNat f) nilp))
 (when ((decide (0 ≤ d)) && (decide (d < (List.length a : Int)))) (when (fits 1 false (List.getD a (Int.toNat d) nilp)) (when (isSl (List.getD a (Int.toNat d) nilp)) (when ((decide (0 ≤ f)) && (decide (f < (List.length (toSl (List.getD a (Int.toNat d) nilp)) : Int)))) (when (fits 1 false (List.getD (toSl (List.getD a (Int.toNat d) nilp)) (Int.toNat f) nilp)) (when (isBool (List.getD (toSl (List.getD a (Int.toNat d) nilp)) (Int.toNat f) nilp)) (ifB (!(toBool (List.getD (toSl (List.getD a (Int.toNat d) nilp)) (Int.toNat f) nilp)))
 (L_ref01_Join_1_0 R k w n a b c d false (IntKind.wrap .i64 (f + 1)))
 (L_ref01_Join_1_0 R k w n a b c d e (IntKind.wrap .i64 (f + 1))))))))))
 (L_ref01_Join_1_0 R k w n a b c d e (IntKind.wrap .i64 (f + 1))))))))))
 (L_ref01_Join_1_0 R k w n a b c d e (IntKind.wrap .i64 (f + 1))))))))))
 (some ((.exit 2), X_ref01_Join_1_0 a b c d e)) := by kernel_rfl
theorem X_ref01_Join_1_0_eq (R : Orc) (k : Nat) (w : Bool) (n : Nat) (a : List FV) (b c d : Int) (e : Bool) : K_ref01_Join_1 R k w n (.exit 2) (X_ref01_Join_1_0 a b c d e) = ifB e
 (when (decide (((0 : Nat) + List.length [FV.int .i64 d]) * 8 ≤ roomy) && decide ((0 : Nat) + List.length [FV.int .i64 d] ≤ roomy)) (L_ref01_Join_2_1 R k w n a b c (IntKind.wrap .i64 (d + 1)) [.int .i64 d]))
 (L_ref01_Join_2_0 R k w n a b c (IntKind.wrap .i64 (d + 1))) := by kernel_rfl
theorem L_ref01_Join_2_1_eq (R : Orc) (k : Nat) (w : Bool) (n : Nat) (a : List FV) (b c d : Int) (e : List FV) : L_ref01_Join_2_1 R k w (n + 1) a b c d e = ifB (decide (d < (List.length a : Int)))
 (when ((decide (0 ≤ b)) && (decide (b < (List.length a : Int)))) (when (fits 1 false (List.getD a (Int.toNat b) nilp)) (when (isSl (List.getD a (Int.toNat b) nilp)) (when ((decide (0 ≤ d)) && (decide (d < (List.length (toSl (List.getD a (Int.toNat b) nilp)) : Int)))) (when (fits 1 false (List.getD (toSl (List.getD a (Int.toNat b) nilp)) (Int.toNat d) nilp)) (when (isBool (List.getD (toSl (List.getD a (Int.toNat b) nilp)) (Int.toNat d) nilp)) (ifB (toBool (List.getD (toSl (List.getD a (Int.toNat b) nilp)) (Int.toNat d) nilp))
 (when ((decide (0 ≤ c)) && (decide (c < (List.length a : Int)))) (when (fits 1 false (List.getD a (Int.toNat c) nilp)) (when (isSl (List.getD a (Int.toNat c) nilp)) (when ((decide (0 ≤ d)) && (decide (d < (List.length (toSl (List.getD a (Int.toNat c) nilp)) : Int)))) (when (fits 1 false (List.getD (toSl (List.getD a (Int.toNat c) nilp)) (Int.toNat d) nilp)) (when (isBool (List.getD (toSl (List.getD a (Int.toNat c) nilp)) (Int.toNat d) nilp)) (jump w (J_ref01_Join_2_1 R k w n a b c d (toBool (List.getD (toSl (List.getD a (Int.toNat c) nilp)) (Int.toNat d) nilp)) e))))))))
 (jump w (J_ref01_Join_2_1 R k w n a b c d false e)))))))))
 (some ((.exit 0), X_ref01_Join_2_1 e)) := by kernel_rfl
theorem J_ref01_Join_2_1_eq (R : Orc) (k : Nat) (w : Bool) (n : Nat) (a : List FV) (b c d : Int) (e : Bool) (f : List FV) : J_ref01_Join_2_1 R k w n a b c d e f = onL (L_ref01_Join_1_1 R k w k a b c d e 0 f) (K_ref01_Join_1 R k w n) := by kernel_rfl
theorem X_ref01_Join_2_1_eq (R : Orc) (k : Nat) (w : Bool) (a : List FV) : K_ref01_Join_2 R k w (.exit 0) (X_ref01_Join_2_1 a) = some ([.fz (.sl a)], []) := by kernel_rfl
theorem L_ref01_Join_1_1_eq (R : Orc) (k : Nat) (w : Bool) (n : Nat) (a : List FV) (b c d : Int) (e : Bool) (f : Int) (g : List FV) : L_ref01_Join_1_1 R k w (n + 1) a b c d e f g = ifB (decide (f < (List.length a : Int)))
 (when ((decide (0 ≤ b)) && (decide (b < (List.length a : Int)))) (when (fits 1 false (List.getD a (Int.toNat b) nilp)) (when (isSl (List.getD a (Int.toNat b) nilp)) (when ((decide (0 ≤ f)) && (decide (f < (List.length (toSl (List.getD a (Int.toNat b) nilp)) : Int)))) (when (fits 1 false (List.getD (toSl (List.getD a (Int.toNat b) nilp)) (Int.toNat f) nilp)) (when (isBool (List.getD (toSl (List.getD a (Int.toNat b) nilp)) (Int.toNat f) nilp)) (ifB (toBool (List.getD (toSl (List.getD a (Int.toNat b) nilp)) (Int.toNat f) nilp))
 (when ((decide (0 ≤ c)) && (decide (c < (List.length a : Int)))) (when (fits 1 false (List.getD a (Int.toNat c) nilp)) (when (isSl (List.getD a (Int.toNat c) nilp)) (when ((decide (0 ≤ f)) && (decide (f < (List.length (toSl (List.getD a (Int.toNat c) nilp)) : Int)))) (when (fits 1 false (List.getD (toSl (List.getD a (Int.toNat c) nilp)) (Int.toNat f) nilp)) (when (isBool (List.getD (toSl (List.getD a (Int.toNat c) nilp)) (Int.toNat f) nilp)) (ifB (toBool (List.getD (toSl (List.getD a (Int.toNat c) nilp)) (Int.toNat f) nilp))
 (when ((decide (0 ≤ d)) && (decide (d < (List.length a : Int)))) (when (fits 1 false (List.getD a (Int.toNat d) nilp)) (when (isSl (List.getD a (Int.toNat d) nilp)) (when ((decide (0 ≤ f)) && (decide (f < (List.length (toSl (List.getD a (Int.toNat d) nilp)) : Int)))) (when (fits 1 false (List.getD (toSl (List.getD a (Int.toNat d) nilp)) (Int.toNat f) nilp)) (when (isBool (List.getD (toSl (List.getD a (Int.toNat d) nilp)) (Int.toNat f) nilp)) (ifB (!(toBool (List.getD (toSl (List.getD a (Int.toNat d) nilp)) (Int.toNat f) nilp)))
 (L_ref01_Join_1_1 R k w n a b c d false (IntKind.wrap .i64 (f + 1)) g)
 (L_ref01_Join_1_1 R k w n a b c d e (IntKind.wrap .i64 (f + 1)) g))))))))
 (L_ref01_Join_1_1 R k w n a b c d e (IntKind.wrap .i64 (f + 1)) g))))))))
 (L_ref01_Join_1_1 R k w n a b c d e (IntKind.wrap .i64 (f + 1)) g))))))))
 (some ((.exit 2), X_ref01_Join_1_1 a b c d e g)) := by kernel_rfl
theorem X_ref01_Join_1_1_eq (R : Orc) (k : Nat) (w : Bool) (n : Nat) (a : List FV) (b c d : Int) (e : Bool) (f : List FV) : K_ref01_Join_1 R k w n (.exit 2) (X_ref01_Join_1_1 a b c d e f) = ifB e
 (when (decide ((List.length f + List.length [FV.int .i64 d]) * 8 ≤ roomy) && decide (List.length f + List.length [FV.int .i64 d] ≤ roomy)) (L_ref01_Join_2_1 R k w n a b c (IntKind.wrap .i64 (d + 1)) (f ++ [FV.int .i64 d])))
 (L_ref01_Join_2_1 R k w n a b c (IntKind.wrap .i64 (d + 1)) f) := by kernel_rfl
def C_ref06_quote : ACode := codeOf 102 Try.f102
def A_ref06_quote : AFunc := ⟨1, [(.tmp 2, .fz)], C_ref06_quote, none⟩
theorem E_ref06_quote (R : Orc) (k : Nat) (w : Bool) (a : ByteArray) : callL R k w A_ref06_quote [.fz (.str a)] = onR (R N_ref03_Signs [.fz (.str a)]) fun r0 => when (List.isEmpty r0.2 && allF [.fz, .fz] r0.1) (when (isBool (toF (List.getD r0.1 1 em))) (onR (R N_ref03_Quote [.fz (toF (List.getD r0.1 0 em))]) fun r1 => when (List.isEmpty r1.2 && allF [.fz] r1.1) (when (isStr (toF (List.getD r1.1 0 em))) (some ([.fz (.str (toStr (toF (List.getD r1.1 0 em))))], []))))) := by kernel_rfl
def C_envelope_Key : ACode := codeOf 103 Try.f103
def A_envelope_Key : AFunc := ⟨1, [(.tmp 2, .fz)], C_envelope_Key, none⟩
theorem E_envelope_Key (R : Orc) (k : Nat) (w : Bool) (a : ByteArray) : callL R k w A_envelope_Key [.fz (.str a)] = onR (R N_strings_HasPrefix [.fz (.str a), .fz (.str (⟨#[35]⟩ : ByteArray))]) fun r0 => when (List.isEmpty r0.2 && allF [.fz] r0.1) (when (isBool (toF (List.getD r0.1 0 em))) (ifB (toBool (toF (List.getD r0.1 0 em)))
 (when (decide (ByteArray.size (⟨#[35]⟩ : ByteArray) + ByteArray.size a ≤ 2 ^ 62)) (some ([.fz (.str ((⟨#[35]⟩ : ByteArray) ++ a))], [])))
 (some ([.fz (.str a)], [])))) := by kernel_rfl
def C_utf_tail : ACode := codeOf 104 Try.f104
def A_utf_tail_b1 : ACode := C_utf_tail.at [1, 1, 0, 0, 1, 0, 0]
def A_utf_tail_s1 : ACode := C_utf_tail.at [1, 1, 0, 1]
def A_utf_tail_j2 : ACode := C_utf_tail.at [1, 1, 0]
def A_utf_tail : AFunc := ⟨4, [(.tmp 8, .fz)], C_utf_tail, none⟩
def J_utf_tail_2_0 (R : Orc) (k : Nat) (w : Bool) (a : ByteArray) (b : Int) := execL R k w [] A_utf_tail_j2 Ans ⟨[(0, .fz (.str a)), (1, .fz (.int .i64 b))], [(4095, .dead)]⟩ (kFin R [(.tmp 8, .fz)] [])
def K_utf_tail_1 (R : Orc) (k : Nat) (w : Bool) : AExit → St → Option Ans := (kBlk 0 (kSeq R k w [] A_utf_tail_s1 (kFin R [(.tmp 8, .fz)] [])))
def L_utf_tail_1_0 (R : Orc) (k : Nat) (w : Bool) (n : Nat) (a : ByteArray) (b c : Int) := loopL R k w [] [0, 1, 9] [8] A_utf_tail_b1 n ⟨[(0, .fz (.str a)), (1, .fz (.int .i64 b)), (9, .fz (.int .i64 c))], [(4095, .dead)]⟩
def X_utf_tail_1_0 (a : Bool) : St := ⟨[(8, .fz (.bool a))], [(4095, .dead)]⟩
def X_utf_tail_1_1 : St := ⟨[], [(4095, .dead)]⟩
theorem E_utf_tail (R : Orc) (k : Nat) (w : Bool) (a : ByteArray) (b c d : Int) : callL R k w A_utf_tail [.fz (.str a), .fz (.int .i64 b), .fz (.int .u8 c), .fz (.int .u8 d)] = ifB (decide ((ByteArray.size a : Int) ≤ b))
 (some ([.fz (.bool false)], []))
 (when (decide (1 < (ByteArray.size a : Int))) (ifB (decide ((((Array.getD (ByteArray.data a) 1 0).toNat : Nat) : Int) < c))
 (some ([.fz (.bool false)], []))
 (when (decide (1 < (ByteArray.size a : Int))) (ifB (decide ((((Array.getD (ByteArray.data a) 1 0).toNat : Nat) : Int) > d))
 (some ([.fz (.bool false)], []))
 (jump w (J_utf_tail_2_0 R k w a b)))))) := by kernel_rfl
theorem J_utf_tail_2_0_eq (R : Orc) (k : Nat) (w : Bool) (a : ByteArray) (b : Int) : J_utf_tail_2_0 R k w a b = onL (L_utf_tail_1_0 R k w k a b 2) (K_utf_tail_1 R k w) := by kernel_rfl
theorem L_utf_tail_1_0_eq (R : Orc) (k : Nat) (w : Bool) (n : Nat) (a : ByteArray) (b c : Int) : L_utf_tail_1_0 R k w (n + 1) a b c = ifB (decide (c ≤ b))
 (when ((decide (0 ≤ c)) && (decide (c < (ByteArray.size a : Int)))) (ifB (decide ((((Array.getD (ByteArray.data a) (Int.toNat c) 0).toNat : Nat) : Int) < 128))
 (some (.ret, X_utf_tail_1_0 false))
 (when ((decide (0 ≤ c)) && (decide (c < (ByteArray.size a : Int)))) (ifB (decide ((((Array.getD (ByteArray.data a) (Int.toNat c) 0).toNat : Nat) : Int) > 191))
 (some (.ret, X_utf_tail_1_0 false))
 (L_utf_tail_1_0 R k w n a b (IntKind.wrap .i64 (c + 1)))))))
 (some ((.exit 0), X_utf_tail_1_1)) := by kernel_rfl
theorem X_utf_tail_1_0_eq (R : Orc) (k : Nat) (w a : Bool) : K_utf_tail_1 R k w .ret (X_utf_tail_1_0 a) = some ([.fz (.bool a)], []) := by kernel_rfl
theorem X_utf_tail_1_1_eq (R : Orc) (k : Nat) (w : Bool) : K_utf_tail_1 R k w (.exit 0) (X_utf_tail_1_1) = some ([.fz (.bool true)], []) := by kernel_rfl
def C_internal_stringslite_HasPrefix : ACode := codeOf 107 Try.f107
def A_internal_stringslite_HasPrefix : AFunc := ⟨2, [(.tmp 4, .fz)], C_internal_stringslite_HasPrefix, none⟩
theorem E_internal_stringslite_HasPrefix (R : Orc) (k : Nat) (w : Bool) (a b : ByteArray) : callL R k w A_internal_stringslite_HasPrefix [.fz (.str a), .fz (.str b)] = ifB (decide ((ByteArray.size a : Int) ≥ (ByteArray.size b : Int)))
 (when (decide (0 ≤ (ByteArray.size b : Int)) && decide ((ByteArray.size b : Int) ≤ (ByteArray.size a : Int))) (when (decide (0 ≤ 0) && decide (0 ≤ (ByteArray.size b : Int))) (some ([.fz (.bool (ByteArray.toList (ByteArray.extract a 0 (Int.toNat (ByteArray.size b : Int))) == ByteArray.toList b))], []))))
 (some ([.fz (.bool false)], [])) := by kernel_rfl
end
end Go.Ab
end
section
namespace Go.Ab
open Go.Proofs
noncomputable def tab0 : Nat → Option AFunc
  | 6 => some A_ref01_Sort
  | 7 => some A_level_New
  | 8 => some A_ref01_Table
  | 9 => some A_law28_light
  | 11 => some A_law28_text
  | 18 => some A_level_Lattice_Leq
  | 19 => some A_level_Lattice_Top
  | 20 => some A_level_named
  | 21 => some A_level_laid
  | 22 => some A_level_closed
  | 23 => some A_level_twisted
  | 24 => some A_level_Lattice_fill
  | 25 => some A_ref09_Light
  | 26 => some A_ref09_Is
  | 27 => some A_ref03_Signs
  | 28 => some A_law28_quote
  | 29 => some A_ref04_Text
  | 30 => some A_ref12_Text
  | 34 => some A_level_Lattice_Text
  | 44 => some A_level_Lattice_Is
  | 45 => some A_level_Name
  | 46 => some A_level_turned
  | 47 => some A_level_over
  | 48 => some A_ref09_Size
  | 49 => some A_ref09_Flat
  | 50 => some A_ref09_Labels
  | 51 => some A_ref09_right
  | 52 => some A_ref09_shape
  | 53 => some A_ref09_Strip
  | 54 => some A_ref03_Put
  | 55 => some A_ref03_Quote
  | 56 => some A_ref04_Is
  | 57 => some A_ref04_Of
  | 58 => some A_ref12_text
  | 59 => some A_ref11_Erase
  | 60 => some A_ref09_Bottom
  | 62 => some A_level_Lattice_Bottom
  | 64 => some A_num_Int
  | 71 => some A_level_Lattice_Size
  | 72 => some A_ref09_Deep
  | 73 => some A_ref05_Is
  | 74 => some A_ref12_body
  | 75 => some A_ref12_quote
  | 76 => some A_ref11_At
  | 77 => some A_level_Lattice_Join
  | 81 => some A_utf_Valid
  | 82 => some A_utf_quoted
  | 83 => some A_num_Make
  | 84 => some A_num_Is
  | 85 => some A_num_pow
  | 86 => some A_num_digits
  | 90 => some A_ref09_Join
  | 91 => some A_ref05_zero
  | 92 => some A_ref06_Text
  | 93 => some A_ref11_sees
  | 94 => some A_ref09_Top
  | 97 => some A_utf_size
  | 99 => some A_strings_HasPrefix
  | 101 => some A_ref01_Join
  | 102 => some A_ref06_quote
  | 103 => some A_envelope_Key
  | 104 => some A_utf_tail
  | 107 => some A_internal_stringslite_HasPrefix
  | _ => none
noncomputable def Rt0 : Orc := RR tab0
theorem rt_call0 {f : Nat} (af : AFunc) {ts : List TV} {r : Ans} (hf : tab0 f = some af) (hl : (af.prim.isNone && (ts.length == af.np && Nat.blt af.np 1000)) = true) (k : Nat) (h : callL Rt0 k true af ts = some r) : Rt0 f ts = some r := RR_call af hf hl k h
set_option maxRecDepth 100000
theorem cf6 : compF Try.prog mds (livesBy Lv Tv 6) 6 Try.f6 = some A_ref01_Sort := by kernel_rfl
theorem cf7 : compF Try.prog mds (livesBy Lv Tv 7) 7 Try.f7 = some A_level_New := by kernel_rfl
theorem cf8 : compF Try.prog mds (livesBy Lv Tv 8) 8 Try.f8 = some A_ref01_Table := by kernel_rfl
theorem cf9 : compF Try.prog mds (livesBy Lv Tv 9) 9 Try.f9 = some A_law28_light := by kernel_rfl
theorem cf11 : compF Try.prog mds (livesBy Lv Tv 11) 11 Try.f11 = some A_law28_text := by kernel_rfl
theorem cf18 : compF Try.prog mds (livesBy Lv Tv 18) 18 Try.f18 = some A_level_Lattice_Leq := by kernel_rfl
theorem cf19 : compF Try.prog mds (livesBy Lv Tv 19) 19 Try.f19 = some A_level_Lattice_Top := by kernel_rfl
theorem cf20 : compF Try.prog mds (livesBy Lv Tv 20) 20 Try.f20 = some A_level_named := by kernel_rfl
theorem cf21 : compF Try.prog mds (livesBy Lv Tv 21) 21 Try.f21 = some A_level_laid := by kernel_rfl
theorem cf22 : compF Try.prog mds (livesBy Lv Tv 22) 22 Try.f22 = some A_level_closed := by kernel_rfl
theorem cf23 : compF Try.prog mds (livesBy Lv Tv 23) 23 Try.f23 = some A_level_twisted := by kernel_rfl
theorem cf24 : compF Try.prog mds (livesBy Lv Tv 24) 24 Try.f24 = some A_level_Lattice_fill := by kernel_rfl
theorem cf25 : compF Try.prog mds (livesBy Lv Tv 25) 25 Try.f25 = some A_ref09_Light := by kernel_rfl
theorem cf26 : compF Try.prog mds (livesBy Lv Tv 26) 26 Try.f26 = some A_ref09_Is := by kernel_rfl
theorem cf27 : compF Try.prog mds (livesBy Lv Tv 27) 27 Try.f27 = some A_ref03_Signs := by kernel_rfl
theorem cf28 : compF Try.prog mds (livesBy Lv Tv 28) 28 Try.f28 = some A_law28_quote := by kernel_rfl
theorem cf29 : compF Try.prog mds (livesBy Lv Tv 29) 29 Try.f29 = some A_ref04_Text := by kernel_rfl
theorem cf30 : compF Try.prog mds (livesBy Lv Tv 30) 30 Try.f30 = some A_ref12_Text := by kernel_rfl
theorem cf34 : compF Try.prog mds (livesBy Lv Tv 34) 34 Try.f34 = some A_level_Lattice_Text := by kernel_rfl
theorem cf44 : compF Try.prog mds (livesBy Lv Tv 44) 44 Try.f44 = some A_level_Lattice_Is := by kernel_rfl
theorem cf45 : compF Try.prog mds (livesBy Lv Tv 45) 45 Try.f45 = some A_level_Name := by kernel_rfl
theorem cf46 : compF Try.prog mds (livesBy Lv Tv 46) 46 Try.f46 = some A_level_turned := by kernel_rfl
theorem cf47 : compF Try.prog mds (livesBy Lv Tv 47) 47 Try.f47 = some A_level_over := by kernel_rfl
theorem cf48 : compF Try.prog mds (livesBy Lv Tv 48) 48 Try.f48 = some A_ref09_Size := by kernel_rfl
theorem cf49 : compF Try.prog mds (livesBy Lv Tv 49) 49 Try.f49 = some A_ref09_Flat := by kernel_rfl
theorem cf50 : compF Try.prog mds (livesBy Lv Tv 50) 50 Try.f50 = some A_ref09_Labels := by kernel_rfl
theorem cf51 : compF Try.prog mds (livesBy Lv Tv 51) 51 Try.f51 = some A_ref09_right := by kernel_rfl
theorem cf52 : compF Try.prog mds (livesBy Lv Tv 52) 52 Try.f52 = some A_ref09_shape := by kernel_rfl
theorem cf53 : compF Try.prog mds (livesBy Lv Tv 53) 53 Try.f53 = some A_ref09_Strip := by kernel_rfl
theorem cf54 : compF Try.prog mds (livesBy Lv Tv 54) 54 Try.f54 = some A_ref03_Put := by kernel_rfl
theorem cf55 : compF Try.prog mds (livesBy Lv Tv 55) 55 Try.f55 = some A_ref03_Quote := by kernel_rfl
theorem cf56 : compF Try.prog mds (livesBy Lv Tv 56) 56 Try.f56 = some A_ref04_Is := by kernel_rfl
theorem cf57 : compF Try.prog mds (livesBy Lv Tv 57) 57 Try.f57 = some A_ref04_Of := by kernel_rfl
theorem cf58 : compF Try.prog mds (livesBy Lv Tv 58) 58 Try.f58 = some A_ref12_text := by kernel_rfl
theorem cf59 : compF Try.prog mds (livesBy Lv Tv 59) 59 Try.f59 = some A_ref11_Erase := by kernel_rfl
theorem cf60 : compF Try.prog mds (livesBy Lv Tv 60) 60 Try.f60 = some A_ref09_Bottom := by kernel_rfl
theorem cf62 : compF Try.prog mds (livesBy Lv Tv 62) 62 Try.f62 = some A_level_Lattice_Bottom := by kernel_rfl
theorem cf64 : compF Try.prog mds (livesBy Lv Tv 64) 64 Try.f64 = some A_num_Int := by kernel_rfl
theorem cf71 : compF Try.prog mds (livesBy Lv Tv 71) 71 Try.f71 = some A_level_Lattice_Size := by kernel_rfl
theorem cf72 : compF Try.prog mds (livesBy Lv Tv 72) 72 Try.f72 = some A_ref09_Deep := by kernel_rfl
theorem cf73 : compF Try.prog mds (livesBy Lv Tv 73) 73 Try.f73 = some A_ref05_Is := by kernel_rfl
theorem cf74 : compF Try.prog mds (livesBy Lv Tv 74) 74 Try.f74 = some A_ref12_body := by kernel_rfl
theorem cf75 : compF Try.prog mds (livesBy Lv Tv 75) 75 Try.f75 = some A_ref12_quote := by kernel_rfl
theorem cf76 : compF Try.prog mds (livesBy Lv Tv 76) 76 Try.f76 = some A_ref11_At := by kernel_rfl
theorem cf77 : compF Try.prog mds (livesBy Lv Tv 77) 77 Try.f77 = some A_level_Lattice_Join := by kernel_rfl
theorem cf81 : compF Try.prog mds (livesBy Lv Tv 81) 81 Try.f81 = some A_utf_Valid := by kernel_rfl
theorem cf82 : compF Try.prog mds (livesBy Lv Tv 82) 82 Try.f82 = some A_utf_quoted := by kernel_rfl
theorem cf83 : compF Try.prog mds (livesBy Lv Tv 83) 83 Try.f83 = some A_num_Make := by kernel_rfl
theorem cf84 : compF Try.prog mds (livesBy Lv Tv 84) 84 Try.f84 = some A_num_Is := by kernel_rfl
theorem cf85 : compF Try.prog mds (livesBy Lv Tv 85) 85 Try.f85 = some A_num_pow := by kernel_rfl
theorem cf86 : compF Try.prog mds (livesBy Lv Tv 86) 86 Try.f86 = some A_num_digits := by kernel_rfl
theorem cf90 : compF Try.prog mds (livesBy Lv Tv 90) 90 Try.f90 = some A_ref09_Join := by kernel_rfl
theorem cf91 : compF Try.prog mds (livesBy Lv Tv 91) 91 Try.f91 = some A_ref05_zero := by kernel_rfl
theorem cf92 : compF Try.prog mds (livesBy Lv Tv 92) 92 Try.f92 = some A_ref06_Text := by kernel_rfl
theorem cf93 : compF Try.prog mds (livesBy Lv Tv 93) 93 Try.f93 = some A_ref11_sees := by kernel_rfl
theorem cf94 : compF Try.prog mds (livesBy Lv Tv 94) 94 Try.f94 = some A_ref09_Top := by kernel_rfl
theorem cf97 : compF Try.prog mds (livesBy Lv Tv 97) 97 Try.f97 = some A_utf_size := by kernel_rfl
theorem cf99 : compF Try.prog mds (livesBy Lv Tv 99) 99 Try.f99 = some A_strings_HasPrefix := by kernel_rfl
theorem cf101 : compF Try.prog mds (livesBy Lv Tv 101) 101 Try.f101 = some A_ref01_Join := by kernel_rfl
theorem cf102 : compF Try.prog mds (livesBy Lv Tv 102) 102 Try.f102 = some A_ref06_quote := by kernel_rfl
theorem cf103 : compF Try.prog mds (livesBy Lv Tv 103) 103 Try.f103 = some A_envelope_Key := by kernel_rfl
theorem cf104 : compF Try.prog mds (livesBy Lv Tv 104) 104 Try.f104 = some A_utf_tail := by kernel_rfl
theorem cf107 : compF Try.prog mds (livesBy Lv Tv 107) 107 Try.f107 = some A_internal_stringslite_HasPrefix := by kernel_rfl
theorem tab0_ok : TabOK Try.prog mds (livesBy Lv Tv) tab0 := by
  intro f af h
  unfold tab0 at h
  split at h
  · cases h; exact .inl ⟨Try.f6, by kernel_rfl, cf6⟩
  · cases h; exact .inl ⟨Try.f7, by kernel_rfl, cf7⟩
  · cases h; exact .inl ⟨Try.f8, by kernel_rfl, cf8⟩
  · cases h; exact .inl ⟨Try.f9, by kernel_rfl, cf9⟩
  · cases h; exact .inl ⟨Try.f11, by kernel_rfl, cf11⟩
  · cases h; exact .inl ⟨Try.f18, by kernel_rfl, cf18⟩
  · cases h; exact .inl ⟨Try.f19, by kernel_rfl, cf19⟩
  · cases h; exact .inl ⟨Try.f20, by kernel_rfl, cf20⟩
  · cases h; exact .inl ⟨Try.f21, by kernel_rfl, cf21⟩
  · cases h; exact .inl ⟨Try.f22, by kernel_rfl, cf22⟩
  · cases h; exact .inl ⟨Try.f23, by kernel_rfl, cf23⟩
  · cases h; exact .inl ⟨Try.f24, by kernel_rfl, cf24⟩
  · cases h; exact .inl ⟨Try.f25, by kernel_rfl, cf25⟩
  · cases h; exact .inl ⟨Try.f26, by kernel_rfl, cf26⟩
  · cases h; exact .inl ⟨Try.f27, by kernel_rfl, cf27⟩
  · cases h; exact .inl ⟨Try.f28, by kernel_rfl, cf28⟩
  · cases h; exact .inl ⟨Try.f29, by kernel_rfl, cf29⟩
  · cases h; exact .inl ⟨Try.f30, by kernel_rfl, cf30⟩
  · cases h; exact .inl ⟨Try.f34, by kernel_rfl, cf34⟩
  · cases h; exact .inl ⟨Try.f44, by kernel_rfl, cf44⟩
  · cases h; exact .inl ⟨Try.f45, by kernel_rfl, cf45⟩
  · cases h; exact .inl ⟨Try.f46, by kernel_rfl, cf46⟩
  · cases h; exact .inl ⟨Try.f47, by kernel_rfl, cf47⟩
  · cases h; exact .inl ⟨Try.f48, by kernel_rfl, cf48⟩
  · cases h; exact .inl ⟨Try.f49, by kernel_rfl, cf49⟩
  · cases h; exact .inl ⟨Try.f50, by kernel_rfl, cf50⟩
  · cases h; exact .inl ⟨Try.f51, by kernel_rfl, cf51⟩
  · cases h; exact .inl ⟨Try.f52, by kernel_rfl, cf52⟩
  · cases h; exact .inl ⟨Try.f53, by kernel_rfl, cf53⟩
  · cases h; exact .inl ⟨Try.f54, by kernel_rfl, cf54⟩
  · cases h; exact .inl ⟨Try.f55, by kernel_rfl, cf55⟩
  · cases h; exact .inl ⟨Try.f56, by kernel_rfl, cf56⟩
  · cases h; exact .inl ⟨Try.f57, by kernel_rfl, cf57⟩
  · cases h; exact .inl ⟨Try.f58, by kernel_rfl, cf58⟩
  · cases h; exact .inl ⟨Try.f59, by kernel_rfl, cf59⟩
  · cases h; exact .inl ⟨Try.f60, by kernel_rfl, cf60⟩
  · cases h; exact .inl ⟨Try.f62, by kernel_rfl, cf62⟩
  · cases h; exact .inl ⟨Try.f64, by kernel_rfl, cf64⟩
  · cases h; exact .inl ⟨Try.f71, by kernel_rfl, cf71⟩
  · cases h; exact .inl ⟨Try.f72, by kernel_rfl, cf72⟩
  · cases h; exact .inl ⟨Try.f73, by kernel_rfl, cf73⟩
  · cases h; exact .inl ⟨Try.f74, by kernel_rfl, cf74⟩
  · cases h; exact .inl ⟨Try.f75, by kernel_rfl, cf75⟩
  · cases h; exact .inl ⟨Try.f76, by kernel_rfl, cf76⟩
  · cases h; exact .inl ⟨Try.f77, by kernel_rfl, cf77⟩
  · cases h; exact .inl ⟨Try.f81, by kernel_rfl, cf81⟩
  · cases h; exact .inl ⟨Try.f82, by kernel_rfl, cf82⟩
  · cases h; exact .inl ⟨Try.f83, by kernel_rfl, cf83⟩
  · cases h; exact .inl ⟨Try.f84, by kernel_rfl, cf84⟩
  · cases h; exact .inl ⟨Try.f85, by kernel_rfl, cf85⟩
  · cases h; exact .inl ⟨Try.f86, by kernel_rfl, cf86⟩
  · cases h; exact .inl ⟨Try.f90, by kernel_rfl, cf90⟩
  · cases h; exact .inl ⟨Try.f91, by kernel_rfl, cf91⟩
  · cases h; exact .inl ⟨Try.f92, by kernel_rfl, cf92⟩
  · cases h; exact .inl ⟨Try.f93, by kernel_rfl, cf93⟩
  · cases h; exact .inl ⟨Try.f94, by kernel_rfl, cf94⟩
  · cases h; exact .inl ⟨Try.f97, by kernel_rfl, cf97⟩
  · cases h; exact .inl ⟨Try.f99, by kernel_rfl, cf99⟩
  · cases h; exact .inl ⟨Try.f101, by kernel_rfl, cf101⟩
  · cases h; exact .inl ⟨Try.f102, by kernel_rfl, cf102⟩
  · cases h; exact .inl ⟨Try.f103, by kernel_rfl, cf103⟩
  · cases h; exact .inl ⟨Try.f104, by kernel_rfl, cf104⟩
  · cases h; exact .inl ⟨Try.f107, by kernel_rfl, cf107⟩
  · cases h
end Go.Ab
end
section
namespace Go.Ab
open Go.Proofs Go.Shelf Go.RowKit
variable {P : Program} {ρ : Ren}
set_option maxHeartbeats 1000000 in
set_option maxRecDepth 100000 in
theorem E_copyCheck_used (L : Lays.n240 P ρ) (X : Builder.X72 P ρ) (b o : Nat) (w : World) (h0 : w.cell? ⟨b, o, none⟩ = some (.pointer (some ⟨b, o, none⟩))) :
    Calls P (ρ.f 240) #[.pointer (some ⟨b, o, none⟩)] w fun e w' => e = .returned (.tuple #[]) ∧ w' = w := by
  obtain ⟨j, hj, _⟩ := Option.map_eq_some_iff.1 X.sizeBuilder
  have mixed := L.mixed
  have t72 := L.t72; have a72 := L.a72; have z72 := L.z72; have v72 := L.v72; have u72 := run_underlying L.t72
  have t70 := L.t70; have a70 := L.a70; have z70 := L.z70; have v70 := L.v70; have u70 := run_underlying L.t70
  have t9 := L.t9; have a9 := L.a9; have z9 := L.z9; have v9 := L.v9; have u9 := run_underlying L.t9
  have t4 := L.t4; have a4 := L.a4; have z4 := L.z4; have v4 := L.v4; have u4 := run_underlying L.t4
  have t164 := L.t164; have a164 := L.a164; have z164 := L.z164; have v164 := L.v164; have u164 := run_underlying L.t164
  go_enter L.f240, Body.n240_ntmps ρ
  go_wp2
  rw [Lib.run_neq_ptr_same w _ L.t70 hj]
  go_wp2
  go_end0
  exact ⟨rfl, rfl⟩
set_option maxHeartbeats 1000000 in
set_option maxRecDepth 100000 in
theorem E_copyCheck_fresh (L : Lays.n240 P ρ) (X : Builder.X72 P ρ) (b o N : Nat) (T : TypeId) (w : World) (h0 : w.cell? ⟨b, o, none⟩ = some (.pointer none)) (hsh : w.shape? b = some (T, N)) (ho : o < N) (hlies : liesAt P P.depth T (N / P.cellsOf T) o (ρ.t 72) 1 = true) (hfz : w.frozen? ⟨b, o, none⟩ = false) :
    Calls P (ρ.f 240) #[.pointer (some ⟨b, o, none⟩)] w fun e w' => e = .returned (.tuple #[]) ∧ w' = w.setCell ⟨b, o, none⟩ (.pointer (some ⟨b, o, none⟩)) := by
  obtain ⟨j, hj, hjs⟩ := Option.map_eq_some_iff.1 X.sizeBuilder
  have mixed := L.mixed
  have t72 := L.t72; have a72 := L.a72; have z72 := L.z72; have v72 := L.v72; have u72 := run_underlying L.t72
  have t70 := L.t70; have a70 := L.a70; have z70 := L.z70; have v70 := L.v70; have u70 := run_underlying L.t70
  have t9 := L.t9; have a9 := L.a9; have z9 := L.z9; have v9 := L.v9; have u9 := run_underlying L.t9
  have t4 := L.t4; have a4 := L.a4; have z4 := L.z4; have v4 := L.v4; have u4 := run_underlying L.t4
  have t164 := L.t164; have a164 := L.a164; have z164 := L.z164; have v164 := L.v164; have u164 := run_underlying L.t164
  go_enter L.f240, Body.n240_ntmps ρ
  go_wp2
  rw [Lib.run_to_unsafe w ⟨b, o, none⟩ L.t70 L.t164 hj (by rw [hjs]; decide) hsh ho]
  simp only [Result.andThen]
  rw [Oper.upon_value]
  go_wp2
  rw [run_callFunc_extern L.f276 (by kernel_rfl) (by kernel_rfl) (by kernel_rfl) (e := Extern.AbiNoEscape.same) (by kernel_rfl)]
  rw [Lib.run_noEscape]
  simp only [Result.andThen]
  rw [Oper.upon_value]
  go_wp2
  rw [Lib.run_from_unsafe w ⟨b, o, none⟩ L.t164 L.t70 hj hsh hlies]
  simp only [Result.andThen]
  rw [Oper.upon_value]
  go_wp2
  go_end0
  exact ⟨rfl, rfl⟩
def BldE (T e : TypeId) (B b o : Nat) (cs : Array Value) (p : Value) (bs : List Value) (w : World) : Prop :=
  B ≤ b ∧ w.heap[b]? = some (.cells cs T (0, 0)) ∧ cs[o]? = some p ∧ ∃ v, cs[o + 1]? = some v ∧ w.ownsRowF B e 1 v bs.length bs ∧ v.ownBlock ≠ some b ∧ (bs = [] → v = .slice none 0 0)
def IsE (T e : TypeId) (B b o : Nat) (cs : Array Value) (bs : List Value) (w : World) : Prop :=
  BldE T e B b o cs (.pointer none) bs w ∨ BldE T e B b o cs (.pointer (some ⟨b, o, none⟩)) bs w
def SameBut (o : Nat) (cs cs' : Array Value) : Prop := cs'.size = cs.size ∧ ∀ j, j ≠ o → j ≠ o + 1 → cs'[j]? = cs[j]?
theorem SameBut.refl (o : Nat) (cs : Array Value) : SameBut o cs cs := ⟨rfl, fun _ _ _ => rfl⟩
theorem SameBut.trans {o : Nat} {a b c : Array Value} (h : SameBut o a b) (k : SameBut o b c) : SameBut o a c := ⟨k.1.trans h.1, fun j h1 h2 => (k.2 j h1 h2).trans (h.2 j h1 h2)⟩
theorem SameBut.set (o : Nat) (cs : Array Value) (i : Nat) (x : Value) (h : i = o ∨ i = o + 1) : SameBut o cs (cs.setIfInBounds i x) :=
  ⟨by simp, fun j h1 h2 => by rw [Array.getElem?_setIfInBounds_ne (by rcases h with rfl | rfl <;> omega)]⟩
theorem set_heap {w : World} {b i : Nat} {cs : Array Value} {T : TypeId} {x : Value} (h : w.heap[b]? = some (.cells cs T (0, 0))) : (w.setCell ⟨b, i, none⟩ x).heap[b]? = some (.cells (cs.setIfInBounds i x) T (0, 0)) := by
  simp [World.setCell, Array.getElem?_modify, h]
theorem own_set {w : World} {B b i : Nat} {e : TypeId} {v x : Value} {n : Nat} {xs : List Value} (h : w.ownsRowF B e 1 v n xs) (hne : v.ownBlock ≠ some b) : (w.setCell ⟨b, i, none⟩ x).ownsRowF B e 1 v n xs :=
  h.kept (row := some b) ⟨rfl, rfl, rfl, by simp [World.setCell], fun k _ hk => Below.heap_setCell _ _ _ _ (fun e => hk (by simp [e]))⟩ (Or.inr hne)
set_option maxHeartbeats 2000000 in
set_option maxRecDepth 100000 in
theorem E_String (L : Lays.n169 P ρ) (X : Builder.Extra P ρ) {T : TypeId} {B b o : Nat} {cs : Array Value} {l : List UInt8} {w : World} (h : IsE T (ρ.t 5) B b o cs (Lib.byteCells l) w) :
    Calls P (ρ.f 169) #[.pointer (some ⟨b, o, none⟩)] w fun e w' => e = .returned (.string ⟨l.toArray⟩) ∧ Below B w w' ∧ (B ≤ b → w'.heap[b]? = w.heap[b]?) := by
  obtain ⟨p, hB, hbk, h0, v, h1, hown, hne, hnil⟩ : ∃ p, BldE T (ρ.t 5) B b o cs p (Lib.byteCells l) w := by
    rcases h with h | h
    · exact ⟨_, h⟩
    · exact ⟨_, h⟩
  have mixed := L.mixed
  have t72 := L.t72; have a72 := L.a72; have z72 := L.z72; have v72 := L.v72; have u72 := run_underlying L.t72
  have t70 := L.t70; have a70 := L.a70; have z70 := L.z70; have v70 := L.v70; have u70 := run_underlying L.t70
  have t37 := L.t37; have a37 := L.a37; have z37 := L.z37; have v37 := L.v37; have u37 := run_underlying L.t37
  have t127 := L.t127; have a127 := L.a127; have z127 := L.z127; have v127 := L.v127; have u127 := run_underlying L.t127
  have t3 := L.t3; have a3 := L.a3; have z3 := L.z3; have v3 := L.v3; have u3 := run_underlying L.t3
  have t9 := L.t9; have a9 := L.a9; have z9 := L.z9; have v9 := L.v9; have u9 := run_underlying L.t9
  have t5 := X.t5; have a5 := X.a5; have z5 := X.z5; have v5 := X.v5; have u5 := run_underlying X.t5
  by_cases hl : l = []
  · subst hl
    obtain rfl := hnil rfl
    have hUS := Any.unsafeString_none L X
    have c1 : w.drew.cell? ⟨b, o + 1, none⟩ = some (.slice none 0 0) := by
      have : w.drew.heap[b]? = some (.cells cs T (0, 0)) := hbk
      rw [Lib.cell_of_heap this]; exact h1
    have hSD : (Builtin.unsafeSliceData_ #[(ρ.t 37)] (ρ.t 127) #[.slice none 0 0]).run P w.drew = .ok (.pointer none) w.drew := rfl
    go_enter L.f169, Body.n169_ntmps ρ
    go_wp2
    go_region_o
    all_goals (go_wp2; go_ret; exact ⟨rfl, Below.drew (Below.refl B w), fun _ => rfl⟩)
  · have hl0 : l.length ≠ 0 := by simpa using hl
    rw [Lib.byteCells_length] at hown
    obtain ⟨g, cap, cur, fz, rfl, hbg, hg, hfz, hnc, hcm, hcs, htake⟩ : ∃ g cap cur fz, v = .slice (some ⟨g, 0, none⟩) l.length cap ∧ B ≤ g ∧ w.heap[g]? = some (.cells cur (ρ.t 5) fz) ∧ fz.2 ≤ l.length * 1 ∧ l.length ≤ cap ∧ cap ≤ maxLen ∧ cur.size = cap * 1 ∧ cur.toList.take (l.length * 1) = Lib.byteCells l := by
      rcases hown.2 with ⟨_, hz⟩ | ⟨g, cap, cur, fz, hv, r⟩
      · exact absurd hz hl0
      · exact ⟨g, cap, cur, fz, hv, r⟩
    have c1 : w.drew.cell? ⟨b, o + 1, none⟩ = some (.slice (some ⟨g, 0, none⟩) l.length cap) := by
      have : w.drew.heap[b]? = some (.cells cs T (0, 0)) := hbk
      rw [Lib.cell_of_heap this]; exact h1
    have hSD : (Builtin.unsafeSliceData_ #[(ρ.t 37)] (ρ.t 127) #[.slice (some ⟨g, 0, none⟩) l.length cap]).run P w.drew = .ok (.pointer (some ⟨g, 0, none⟩)) w.drew :=
      Lib.run_unsafeSliceData_row _ _ _ _ _ _ (by omega)
    have hUS : (Builtin.unsafeString_ #[(ρ.t 127), (ρ.t 3)] (ρ.t 9) #[.pointer (some ⟨g, 0, none⟩), .int .i64 l.length]).run P w.drew = .ok (.string ⟨l.toArray⟩) (w.drew.freeze ⟨g, 0, none⟩ l.length) := by
      refine Lib.run_unsafeString_row w.drew (ρ.t 127) (ρ.t 3) (ρ.t 9) (ρ.t 5) L.t127 X.cellsByte g cur.size (by have hg' : w.drew.heap[g]? = some (.cells cur (ρ.t 5) fz) := hg; simp [World.shape?, hg']) l hl (by omega) (by unfold maxLen at hcm; omega) ?_
      intro j x hx
      have := hown.cells (g := g) rfl j (.int .u8 x.toNat) (by simp [Lib.byteCells, hx])
      exact this
    have hgb : b ≠ g := fun e => hne (by simp [Value.ownBlock, e])
    have hfr : (w.drew.freeze ⟨g, 0, none⟩ l.length).heap[b]? = w.drew.heap[b]? := by
      unfold World.freeze
      split
      · rfl
      · simp [Array.getElem?_modify, Ne.symm hgb]
    go_enter L.f169, Body.n169_ntmps ρ
    go_wp2
    go_region_o
    all_goals (go_wp2; go_ret; exact ⟨rfl, Lib.below_freeze (Below.drew (Below.refl B w)) (p := ⟨g, 0, none⟩) hbg _, fun _ => hfr⟩)
end Go.Ab
end
section
namespace Go.Ab
open Go.Proofs Go.Shelf Go.RowKit
variable {P : Program} {ρ : Ren}
theorem E_copyCheck_k (L : Lays.n240 P ρ) (X : Builder.X72 P ρ) {T : TypeId} {B b o : Nat} {cs : Array Value} {bs : List Value} {w : World} (hlies : liesAt P P.depth T (cs.size / P.cellsOf T) o (ρ.t 72) 1 = true) (h : IsE T (ρ.t 5) B b o cs bs w) :
    Calls P (ρ.f 240) #[.pointer (some ⟨b, o, none⟩)] w fun e w' => e = .returned (.tuple #[]) ∧ ∃ cs', SameBut o cs cs' ∧ BldE T (ρ.t 5) B b o cs' (.pointer (some ⟨b, o, none⟩)) bs w' ∧ Below B w w' ∧ w.heap.size ≤ w'.heap.size ∧ Lib.OthersKept (ρ.t 5) (some b) w w' := by
  rcases h with h | h
  · obtain ⟨hB, hb, h0, v, h1, hown, hne, hnil⟩ := h
    have ho : o < cs.size := (Array.getElem?_eq_some_iff.1 h0).1
    have hsh : w.shape? b = some (T, cs.size) := by simp [World.shape?, hb]
    refine (E_copyCheck_fresh L X b o cs.size T w (by rw [Lib.cell_of_heap hb]; exact h0) hsh ho hlies (Lib.frozen_of_heap hb o)).mono ?_
    rintro e w' ⟨rfl, rfl⟩
    refine ⟨rfl, cs.setIfInBounds o (.pointer (some ⟨b, o, none⟩)), .set _ _ _ _ (.inl rfl), ⟨hB, set_heap hb, by simp [ho], v, ?_, own_set hown hne, hne, hnil⟩, (Below.refl B w).setCell (p := ⟨b, o, none⟩) hB _, by simp [World.setCell], (Lib.OthersKept.refl _ _ w).setCell ⟨b, o, none⟩ rfl _⟩
    rw [Array.getElem?_setIfInBounds_ne (by omega)]; exact h1
  · have hb := h.2.1
    refine (E_copyCheck_used L X b o w (by rw [Lib.cell_of_heap hb]; exact h.2.2.1)).mono ?_
    rintro e w' ⟨rfl, rfl⟩
    exact ⟨rfl, cs, .refl _ _, h, Below.refl B _, Nat.le_refl _, Lib.OthersKept.refl _ _ _⟩
set_option maxHeartbeats 2000000 in
set_option maxRecDepth 100000 in
theorem E_WriteString_k (L : Lays.n166 P ρ) (X : Builder.Extra P ρ) {T : TypeId} {B b o : Nat} {cs : Array Value} {bs : List Value} {w : World} (s : ByteArray) (hs0 : s.size ≠ 0) (hTe : T ≠ ρ.t 5) (hlies : liesAt P P.depth T (cs.size / P.cellsOf T) o (ρ.t 72) 1 = true) (h : IsE T (ρ.t 5) B b o cs bs w) (hlen : bs.length + s.size ≤ 140737488355328) (hBw : B ≤ w.heap.size) :
    Calls P (ρ.f 166) #[.pointer (some ⟨b, o, none⟩), .string s] w fun e w' => e = .returned (.tuple #[.int .i64 s.size, .nilIface]) ∧ ∃ cs', SameBut o cs cs' ∧ BldE T (ρ.t 5) B b o cs' (.pointer (some ⟨b, o, none⟩)) (bs ++ Lib.strCells s) w' ∧ Below B w w' ∧ w.heap.size ≤ w'.heap.size ∧ Lib.OthersKept (ρ.t 5) (some b) w w' := by
  obtain ⟨i0, hi, hz0, hz1, hz2⟩ := info_parts X.infoByte
  have mixed := L.mixed
  have t72 := L.t72; have a72 := L.a72; have z72 := L.z72; have v72 := L.v72; have u72 := run_underlying L.t72
  have t70 := L.t70; have a70 := L.a70; have z70 := L.z70; have v70 := L.v70; have u70 := run_underlying L.t70
  have t5 := X.t5; have a5 := X.a5; have z5 := X.z5; have v5 := X.v5; have u5 := run_underlying X.t5
  have t37 := L.t37; have a37 := L.a37; have z37 := L.z37; have v37 := L.v37; have u37 := run_underlying L.t37
  have t9 := L.t9; have a9 := L.a9; have z9 := L.z9; have v9 := L.v9; have u9 := run_underlying L.t9
  have t4 := L.t4; have a4 := L.a4; have z4 := L.z4; have v4 := L.v4; have u4 := run_underlying L.t4
  have t164 := L.t164; have a164 := L.a164; have z164 := L.z164; have v164 := L.v164; have u164 := run_underlying L.t164
  have t3 := L.t3; have a3 := L.a3; have z3 := L.z3; have v3 := L.v3; have u3 := run_underlying L.t3
  have e240 : ∀ args w, (callFunc (ρ.f 240) args).run P w = .ok (.enter (ρ.f 240) args) w := enters_of L.f240 (by kernel_rfl) rfl
  go_enter L.f166, Body.n166_ntmps ρ
  go_wp2_with (go_at_fn (ρ.f 240); refine (E_copyCheck_k { L with } X.toX72 hlies h).mono ?_)
  rintro e w1 ⟨rfl, cs1, hs1, hA, hb1, hsz1, hk1⟩
  obtain ⟨hB, hbk, h0, v, h1, hown, hne, hnil⟩ := hA
  have c0 : w1.cell? ⟨b, o, none⟩ = some (.pointer (some ⟨b, o, none⟩)) := by rw [Lib.cell_of_heap hbk]; exact h0
  have c1 : w1.cell? ⟨b, o + 1, none⟩ = some v := by rw [Lib.cell_of_heap hbk]; exact h1
  go_wp2_with (at_builtin; refine Lib.wpList_append_own_stringF _ rfl _ _ (ρ.t 37) (ρ.t 9) rfl B (ρ.t 5) i0 L.t37 L.t9 hi hz0 hz1 hz2 _ _ _ rfl hown s rfl ?c3 ?c4 ?c5 ?_)
  case c3 => unfold maxLen; omega
  case c4 => omega
  case c5 => omega
  intro v' w2 hown' hgrow _
  have hlt : b < w1.heap.size := (Array.getElem?_eq_some_iff.1 hbk).1
  have hb2 : w2.heap[b]? = some (.cells cs1 T (0, 0)) := by
    rw [hgrow.block b hlt (fun e => hne e.symm)]
    exact hbk
  have d0 : w2.cell? ⟨b, o, none⟩ = some (.pointer (some ⟨b, o, none⟩)) := by rw [Lib.cell_of_heap hb2]; exact h0
  have d1 : w2.cell? ⟨b, o + 1, none⟩ = some v := by rw [Lib.cell_of_heap hb2]; exact h1
  have f1 : w2.frozen? ⟨b, o + 1, none⟩ = false := Lib.frozen_of_heap hb2 (o + 1)
  obtain ⟨ao, n', cap, rfl⟩ : ∃ ao n' cap, v' = .slice ao n' cap := by
    rcases hown'.2 with ⟨hv, _⟩ | ⟨g, cap, cur, fz, hv, _⟩
    · exact ⟨_, _, _, hv⟩
    · exact ⟨_, _, _, hv⟩
  go_wp2
  go_ret2
  have hne' := Lib.ownBlock_neF hown' hb2 hTe
  have ho1 : o + 1 < cs1.size := (Array.getElem?_eq_some_iff.1 h1).1
  have hgs := hgrow.size
  refine ⟨rfl, cs1.setIfInBounds (o + 1) (.slice ao n' cap), hs1.trans (.set _ _ _ _ (.inr rfl)), ⟨hB, set_heap hb2, by rw [Array.getElem?_setIfInBounds_ne (by omega)]; exact h0, _, by simp [ho1], own_set (by simpa [Lib.strCells_length] using hown') hne', hne', fun e => by
    have := congrArg List.length e
    rw [List.length_append, Lib.strCells_length, List.length_nil] at this
    omega⟩, ?_, by simp [World.setCell] at hgs ⊢; omega, (hk1.grown hgrow (Lib.ownsRowF_kind hown)).setCell ⟨b, o + 1, none⟩ rfl _⟩
  exact (hb1.grown hgrow (by omega) (fun k hk => (hown.lt k hk).1)).setCell (p := ⟨b, o + 1, none⟩) hB _
set_option maxHeartbeats 1000000 in
set_option maxRecDepth 100000 in
theorem E_Len (L : Lays.n170 P ρ) {T : TypeId} {B b o : Nat} {cs : Array Value} {bs : List Value} {w : World} (h : IsE T (ρ.t 5) B b o cs bs w) :
    Calls P (ρ.f 170) #[.pointer (some ⟨b, o, none⟩)] w fun e w' => e = .returned (.int .i64 bs.length) ∧ w' = w := by
  obtain ⟨p, hB, hbk, h0, v, h1, hown, hne, hnil⟩ : ∃ p, BldE T (ρ.t 5) B b o cs p bs w := by
    rcases h with h | h
    · exact ⟨_, h⟩
    · exact ⟨_, h⟩
  obtain ⟨ao, cap, rfl⟩ : ∃ ao cap, v = .slice ao bs.length cap := by
    rcases hown.2 with ⟨hv, h0⟩ | ⟨g, cap, cur, fz, hv, _⟩
    · exact ⟨none, 0, by rw [hv, h0]⟩
    · exact ⟨_, _, hv⟩
  have c1 : w.cell? ⟨b, o + 1, none⟩ = some (.slice ao bs.length cap) := by rw [Lib.cell_of_heap hbk]; exact h1
  have mixed := L.mixed
  have t72 := L.t72; have a72 := L.a72; have z72 := L.z72; have v72 := L.v72; have u72 := run_underlying L.t72
  have t70 := L.t70; have a70 := L.a70; have z70 := L.z70; have v70 := L.v70; have u70 := run_underlying L.t70
  have t37 := L.t37; have a37 := L.a37; have z37 := L.z37; have v37 := L.v37; have u37 := run_underlying L.t37
  have t3 := L.t3; have a3 := L.a3; have z3 := L.z3; have v3 := L.v3; have u3 := run_underlying L.t3
  go_enter L.f170, Body.n170_ntmps ρ
  go_wp2
  go_ret
  exact ⟨rfl, rfl⟩
end Go.Ab
end
section
namespace Go.Proofs
open Go.Shelf
def Try.lays105_ren : Go.Shelf.Ren := ⟨fun | 105 => 87 | 212 => 98 | 99 => 99 | 165 => 100 | 166 => 35 | 170 => 95 | 169 => 36 | 263 => 105 | 264 => 106 | 206 => 107 | 240 => 66 | 241 => 108 | 276 => 88 | 277 => 109 | n => n, fun | 9 => 9 | 3 => 3 | 4 => 4 | 20 => 20 | 0 => 0 | 46 => 144 | 109 => 146 | 5 => 5 | 72 => 87 | 76 => 90 | 51 => 152 | 146 => 153 | 53 => 155 | 148 => 156 | 70 => 84 | 37 => 85 | 75 => 89 | 127 => 124 | 164 => 137 | 80 => 92 | n => n, fun | n => n⟩
theorem Try.lays105 : Go.Proofs.Lays.n105 Try.prog Try.lays105_ren := {
  mixed := by kernel_rfl
  f99 := Try.func99.trans (congrArg some (by kernel_rfl))
  f105 := Try.func87.trans (congrArg some (by kernel_rfl))
  f165 := Try.func100.trans (congrArg some (by kernel_rfl))
  f166 := Try.func35.trans (congrArg some (by kernel_rfl))
  f169 := Try.func36.trans (congrArg some (by kernel_rfl))
  f170 := Try.func95.trans (congrArg some (by kernel_rfl))
  f206 := Try.func107.trans (congrArg some (by kernel_rfl))
  f212 := Try.func98.trans (congrArg some (by kernel_rfl))
  f240 := Try.func66.trans (congrArg some (by kernel_rfl))
  f241 := Try.func108.trans (congrArg some (by kernel_rfl))
  f263 := Try.func105.trans (congrArg some (by kernel_rfl))
  f264 := Try.func106.trans (congrArg some (by kernel_rfl))
  f276 := Try.func88.trans (congrArg some (by kernel_rfl))
  f277 := Try.func109.trans (congrArg some (by kernel_rfl))
  t0 := Try.underlying0
  a0 := Try.isAgg0
  z0 := Try.sizeOf0
  v0 := Try.zeroValue0
  t3 := Try.underlying3
  a3 := Try.isAgg3
  z3 := Try.sizeOf3
  v3 := Try.zeroValue3
  t4 := Try.underlying4
  a4 := Try.isAgg4
  z4 := Try.sizeOf4
  v4 := Try.zeroValue4
  t5 := Try.underlying5
  a5 := Try.isAgg5
  z5 := Try.sizeOf5
  v5 := Try.zeroValue5
  t9 := Try.underlying9
  a9 := Try.isAgg9
  z9 := Try.sizeOf9
  v9 := Try.zeroValue9
  t20 := Try.underlying20
  a20 := Try.isAgg20
  z20 := Try.sizeOf20
  v20 := Try.zeroValue20
  t37 := Try.underlying85
  a37 := Try.isAgg85
  z37 := Try.sizeOf85
  v37 := Try.zeroValue85
  t46 := Try.underlying144
  a46 := Try.isAgg144
  z46 := Try.sizeOf144
  v46 := Try.zeroValue144
  t51 := Try.underlying152
  a51 := Try.isAgg152
  z51 := Try.sizeOf152
  v51 := Try.zeroValue152
  t53 := Try.underlying155
  a53 := Try.isAgg155
  z53 := Try.sizeOf155
  v53 := Try.zeroValue155
  t70 := Try.underlying84
  a70 := Try.isAgg84
  z70 := Try.sizeOf84
  v70 := Try.zeroValue84
  t72 := Try.underlying87
  a72 := Try.isAgg87
  z72 := Try.sizeOf87
  v72 := Try.zeroValue87
  t75 := Try.underlying89
  a75 := Try.isAgg89
  z75 := Try.sizeOf89
  v75 := Try.zeroValue89
  t76 := Try.underlying90
  a76 := Try.isAgg90
  z76 := Try.sizeOf90
  v76 := Try.zeroValue90
  t109 := Try.underlying146
  a109 := Try.isAgg146
  z109 := Try.sizeOf146
  v109 := Try.zeroValue146
  t127 := Try.underlying124
  a127 := Try.isAgg124
  z127 := Try.sizeOf124
  v127 := Try.zeroValue124
  t146 := Try.underlying153
  a146 := Try.isAgg153
  z146 := Try.sizeOf153
  v146 := Try.zeroValue153
  t148 := Try.underlying156
  a148 := Try.isAgg156
  z148 := Try.sizeOf156
  v148 := Try.zeroValue156
  t164 := Try.underlying137
  a164 := Try.isAgg137
  z164 := Try.sizeOf137
  v164 := Try.zeroValue137 }
theorem Try.Builder_Extra_105 : Builder.Extra Try.prog Try.lays105_ren := {
  sizeBuilder := by kernel_rfl
  liesBuilder := by kernel_rfl
  t5 := Try.underlying5
  a5 := Try.isAgg5
  z5 := Try.sizeOf5
  v5 := Try.zeroValue5
  infoByte := by kernel_rfl
  cellsByte := by kernel_rfl
  sizeByte := by kernel_rfl
  neB5 := by decide }
theorem Try.lays166 : Go.Proofs.Lays.n166 Try.prog Try.lays105_ren := { Try.lays105 with }
theorem Try.lays169 : Go.Proofs.Lays.n169 Try.prog Try.lays105_ren := { Try.lays105 with }
theorem Try.lays170 : Go.Proofs.Lays.n170 Try.prog Try.lays105_ren := { Try.lays105 with }
end Go.Proofs
namespace Go.Ab
open Go.Proofs
theorem repeat_prim : ∀ ts r, repeatP ts = some r → CallOK Try.prog 87 ts r := repeatP_ok fun s c w h1 h2 => Any.strings_Repeat Try.lays105 Try.Builder_Extra_105 s c w h1 h2
def A_repeat : AFunc := ⟨2, [], .skip, some repeatP⟩
end Go.Ab
end
section
namespace Go.Ab
inductive JV where
  | mk (k c s : Int) (t : ByteArray) (is : List JV) (ks : List ByteArray)
  deriving Inhabited
mutual
def JV.enc : JV → FV
  | .mk k c s t is ks => .ag [.int .i64 k, .int .i64 c, .int .i64 s, .str t, .sl (JV.encs is), .sl (ks.map .str)]
def JV.encs : List JV → List FV
  | [] => []
  | v :: r => v.enc :: JV.encs r
end
theorem JV.encs_eq : ∀ l : List JV, JV.encs l = l.map JV.enc
  | [] => by simp [JV.encs]
  | v :: r => by simp [JV.encs, JV.encs_eq r]
theorem JV.enc_mk (k c s : Int) (t : ByteArray) (is : List JV) (ks : List ByteArray) : (JV.mk k c s t is ks).enc = .ag [.int .i64 k, .int .i64 c, .int .i64 s, .str t, .sl (is.map JV.enc), .sl (ks.map .str)] := by
  simp [JV.enc, JV.encs_eq]
@[simp] theorem JV.enc_fits (v : JV) : v.enc.fits 6 true = true := by
  obtain ⟨k, c, s, t, is, ks⟩ := v
  simp [JV.enc]
@[simp] theorem JV.all_fits (l : List JV) : (l.map JV.enc).all (FV.fits 6 true) = true := Ab.all_fits _ (fun v => v.enc_fits) l
def JV.k : JV → Int | .mk k _ _ _ _ _ => k
def JV.is : JV → List JV | .mk _ _ _ _ is _ => is
def JV.ks : JV → List ByteArray | .mk _ _ _ _ _ ks => ks
inductive JV.Sm : JV → Prop where
  | mk {k c s : Int} {t : ByteArray} {is : List JV} {ks : List ByteArray} (hi : is.length ≤ 1152921504606846976) (hk : ks.length ≤ 1152921504606846976) (h : ∀ v ∈ is, v.Sm) : (JV.mk k c s t is ks).Sm
theorem drop_cons {α : Type} {l : List α} {i : Nat} (h : i < l.length) : l.drop i = l[i] :: l.drop (i + 1) := List.drop_eq_getElem_cons h
end Go.Ab
end
section
namespace Go.Ab
def cont : Nat → Int → List UInt8 → Option Int
  | 0, c, _ => some c
  | _ + 1, _, [] => none
  | n + 1, c, d :: r => if 128 ≤ d.toNat ∧ d.toNat ≤ 191 then cont n (64 * c + (d.toNat : Int) - 128) r else none
def putB (c : Int) : List Int :=
  if c < 128 then [c] else if c < 2048 then [192 + c / 64, 128 + c % 64] else if c < 65536 then [224 + c / 4096, 128 + c / 64 % 64, 128 + c % 64] else [240 + c / 262144, 128 + c / 4096 % 64, 128 + c / 64 % 64, 128 + c % 64]
def headC (b : Nat) : Int := if 240 ≤ b ∧ b < 248 then (b : Int) - 240 else if 224 ≤ b then (b : Int) - 224 else if 192 ≤ b then (b : Int) - 192 else b
def headN (b : Nat) : Nat := if 240 ≤ b ∧ b < 248 then 4 else if 224 ≤ b then 3 else if 192 ≤ b then 2 else 1
def toB (l : List Int) : List UInt8 := l.map fun e => UInt8.ofNat e.toNat
def sgn : List UInt8 → Option (Int × Nat)
  | [] => none
  | b :: r =>
    if 248 ≤ b.toNat ∨ (128 ≤ b.toNat ∧ b.toNat < 192) ∨ r.length + 1 < headN b.toNat then none
    else match cont (headN b.toNat - 1) (headC b.toNat) r with
      | none => none
      | some c => if 1114111 < c ∨ (55296 ≤ c ∧ c < 57344) ∨ toB (putB c) ≠ (b :: r).take (headN b.toNat) then none else some (c, headN b.toNat)
def signsN : Nat → List UInt8 → Option (List Int)
  | _, [] => some []
  | 0, _ :: _ => none
  | n + 1, b :: r => match sgn (b :: r) with
    | none => none
    | some (c, k) => (signsN n ((b :: r).drop k)).map (c :: ·)
def signsL (l : List UInt8) : Option (List Int) := signsN l.length l
theorem headN_le (b : Nat) : 1 ≤ headN b ∧ headN b ≤ 4 := by unfold headN; split <;> (try split) <;> (try split) <;> omega
theorem headC_le {b : Nat} (h : b < 248) : 0 ≤ headC b ∧ headC b ≤ 191 := by unfold headC; split <;> (try split) <;> (try split) <;> omega
theorem cont_nonneg : ∀ (n : Nat) (c : Int) (l : List UInt8) (c' : Int), 0 ≤ c → cont n c l = some c' → 0 ≤ c'
  | 0, c, _, c', h, e => by simp only [cont, Option.some.injEq] at e; omega
  | n + 1, c, [], c', h, e => by cases e
  | n + 1, c, d :: r, c', h, e => by
    simp only [cont] at e
    split at e
    · exact cont_nonneg n _ r c' (by omega) e
    · cases e
theorem wrap8 {n : Int} (h1 : 0 ≤ n) (h2 : n ≤ 255) : IntKind.wrap .u8 n = n := by
  simp only [IntKind.wrap]
  have : IntKind.bits .u8 = 8 := rfl
  have hs : IntKind.signed .u8 = false := rfl
  simp only [this, hs]
  simp
  omega
theorem put3_ok {c : Int} (h0 : 0 ≤ c) (h1 : c ≤ 1114111) : Rt0 N_ref03_Put [.fz (.int .i64 c)] = some ([.fz (.sl ((putB c).map (.int .u8)))], []) := by
  refine rt_call0 A_ref03_Put rfl rfl 0 ?_
  rw [E_ref03_Put]
  have t1 : Int.tdiv c 64 = c / 64 := Int.tdiv_eq_ediv_of_nonneg h0
  have t2 : Int.tdiv c 4096 = c / 4096 := Int.tdiv_eq_ediv_of_nonneg h0
  have t3 : Int.tdiv c 262144 = c / 262144 := Int.tdiv_eq_ediv_of_nonneg h0
  have t4 : Int.tmod c 64 = c % 64 := Int.tmod_eq_emod_of_nonneg h0
  have w1 : IntKind.wrap .i64 (c / 64) = c / 64 := wrap64 (by omega) (by omega)
  have w2 : IntKind.wrap .i64 (c / 4096) = c / 4096 := wrap64 (by omega) (by omega)
  have w3 : IntKind.wrap .i64 (c / 262144) = c / 262144 := wrap64 (by omega) (by omega)
  have t5 : Int.tmod (c / 64) 64 = c / 64 % 64 := Int.tmod_eq_emod_of_nonneg (by omega)
  have t6 : Int.tmod (c / 4096) 64 = c / 4096 % 64 := Int.tmod_eq_emod_of_nonneg (by omega)
  rw [t1, t2, t3, t4, w1, w2, w3, t5, t6]
  have v1 : IntKind.wrap .i64 (128 + c % 64) = 128 + c % 64 := wrap64 (by omega) (by omega)
  have v2 : IntKind.wrap .i64 (128 + c / 64 % 64) = 128 + c / 64 % 64 := wrap64 (by omega) (by omega)
  have v3 : IntKind.wrap .i64 (128 + c / 4096 % 64) = 128 + c / 4096 % 64 := wrap64 (by omega) (by omega)
  have v4 : IntKind.wrap .i64 (192 + c / 64) = 192 + c / 64 := wrap64 (by omega) (by omega)
  have v5 : IntKind.wrap .i64 (224 + c / 4096) = 224 + c / 4096 := wrap64 (by omega) (by omega)
  have v6 : IntKind.wrap .i64 (240 + c / 262144) = 240 + c / 262144 := wrap64 (by omega) (by omega)
  rw [v1, v2, v3, v4, v5, v6]
  have x1 : IntKind.wrap .u8 (128 + c % 64) = 128 + c % 64 := wrap8 (by omega) (by omega)
  have x2 : IntKind.wrap .u8 (128 + c / 64 % 64) = 128 + c / 64 % 64 := wrap8 (by omega) (by omega)
  have x3 : IntKind.wrap .u8 (128 + c / 4096 % 64) = 128 + c / 4096 % 64 := wrap8 (by omega) (by omega)
  have x6 : IntKind.wrap .u8 (240 + c / 262144) = 240 + c / 262144 := wrap8 (by omega) (by omega)
  unfold putB
  by_cases a1 : c < 128
  · have y : IntKind.wrap .u8 c = c := wrap8 (by omega) (by omega)
    simp [a1, y]
  · by_cases a2 : c < 2048
    · have x4 : IntKind.wrap .u8 (192 + c / 64) = 192 + c / 64 := wrap8 (by omega) (by omega)
      simp [a1, a2, x4, x1]
    · by_cases a3 : c < 65536
      · have x5 : IntKind.wrap .u8 (224 + c / 4096) = 224 + c / 4096 := wrap8 (by omega) (by omega)
        simp [a1, a2, a3, x5, x2, x1]
      · simp [a1, a2, a3, x6, x3, x2, x1]
theorem bytes_size (s : ByteArray) : s.data.toList.length = s.size := by rw [Array.length_toList]; rfl
theorem byteAt {s : ByteArray} {i : Nat} (h : i < s.data.toList.length) : Array.getD s.data i 0 = s.data.toList[i] := by
  have : i < s.data.size := by simpa using h
  unfold Array.getD
  rw [dif_pos this]
  simp
theorem extract_list (s : ByteArray) (a b : Nat) : (ByteArray.extract s a b).toList = (s.data.toList.take b).drop a := by
  rw [ByteArray.toList_eq, ByteArray.data_extract]
  simp [Array.toList_extract, List.extract_eq_take_drop, List.drop_take]
theorem u8_le (b : UInt8) : b.toNat ≤ 255 := by have := b.toNat_lt; omega
section
variable (s : ByteArray) (hs : s.size ≤ 8796093022208)
include hs
theorem inner1 (K n : Nat) (acc : List Int) : ∀ (j f i nn kk : Nat) (c : Int), j < f → kk + j = nn → nn ≤ 4 → i + nn ≤ s.size → 0 ≤ c → (c + 1) * (64 ^ j : Nat) ≤ 1099511627776 →
    onL (L_ref03_Signs_1_1 Rt0 K true f s i nn c kk (acc.map (.int .i64))) (K_ref03_Signs_1 Rt0 K true n) = (match cont j c (s.data.toList.drop (i + kk)) with
      | some c' => K_ref03_Signs_1 Rt0 K true n (.exit 2) (X_ref03_Signs_1_3 s i nn c' (acc.map (.int .i64)))
      | none => some (.ret, X_ref03_Signs_2_3 false (acc.map (.int .i64)))) := by
  intro j
  have hbs := bytes_size s
  induction j with
  | zero =>
    intro f i nn kk c hf h1 h2 h3 h4 h5
    obtain ⟨f, rfl⟩ : ∃ m, f = m + 1 := ⟨f - 1, by omega⟩
    rw [L_ref03_Signs_1_1_eq]
    have : decide ((kk : Int) < (nn : Int)) = false := by simp; omega
    simp only [this, ifB_false, onL_some, cont]
  | succ j jh =>
    intro f i nn kk c hf h1 h2 h3 h4 h5
    obtain ⟨f, rfl⟩ : ∃ m, f = m + 1 := ⟨f - 1, by omega⟩
    have hc : c ≤ 1099511627776 := by
      have h0 : (1 : Int) ≤ ((64 ^ (j + 1) : Nat) : Int) := by
        have := Nat.pow_pos (n := j + 1) (show 0 < 64 by omega)
        omega
      have := Int.mul_le_mul_of_nonneg_left h0 (show 0 ≤ c + 1 by omega)
      omega
    have hl : i + kk < s.data.toList.length := by omega
    rw [L_ref03_Signs_1_1_eq, drop_cons hl]
    have e1 : decide ((kk : Int) < (nn : Int)) = true := by simp; omega
    have e2 : IntKind.wrap .i64 ((i : Int) + (kk : Int)) = ((i + kk : Nat) : Int) := by rw [wrap64 (by omega) (by omega)]; omega
    have e3 : decide (((i + kk : Nat) : Int) < (s.size : Int)) = true := by simp; omega
    have e4 : decide ((0 : Int) ≤ ((i + kk : Nat) : Int)) = true := by simp; omega
    simp only [e1, e2, e3, e4, ifB_true, Bool.and_true, when_true', Int.toNat_natCast, byteAt hl]
    generalize s.data.toList[i + kk] = d
    have hd := u8_le d
    have e5 : IntKind.wrap .i64 ((d.toNat : Nat) : Int) = (d.toNat : Int) := wrap64 (by omega) (by omega)
    simp only [e5, cont]
    by_cases h : 128 ≤ d.toNat ∧ d.toNat ≤ 191
    · have a1 : decide (((d.toNat : Nat) : Int) < 128) = false := by simp; omega
      have a2 : decide (((d.toNat : Nat) : Int) > 191) = false := by simp; omega
      have w1 : IntKind.wrap .i64 (64 * c) = 64 * c := wrap64 (by omega) (by omega)
      have w2 : IntKind.wrap .i64 (64 * c + (d.toNat : Int)) = 64 * c + (d.toNat : Int) := wrap64 (by omega) (by omega)
      have w3 : IntKind.wrap .i64 (64 * c + (d.toNat : Int) - 128) = 64 * c + (d.toNat : Int) - 128 := wrap64 (by omega) (by omega)
      have w4 : IntKind.wrap .i64 ((kk : Int) + 1) = ((kk + 1 : Nat) : Int) := by rw [wrap64 (by omega) (by omega)]; omega
      have hstep : (64 * c + (d.toNat : Int) - 128 + 1) * ((64 ^ j : Nat) : Int) ≤ 1099511627776 := by
        rw [Nat.pow_succ, Int.natCast_mul, show ((64 : Nat) : Int) = 64 from rfl] at h5
        have hp : (0 : Int) ≤ ((64 ^ j : Nat) : Int) := Int.natCast_nonneg _
        generalize ((64 ^ j : Nat) : Int) = p at h5 hp
        have := Int.mul_le_mul_of_nonneg_right (show 64 * c + (d.toNat : Int) - 128 + 1 ≤ (c + 1) * 64 by omega) hp
        rw [Int.mul_assoc, Int.mul_comm 64 p] at this
        exact Int.le_trans this h5
      have := jh f i nn (kk + 1) (64 * c + (d.toNat : Int) - 128) (by omega) (by omega) h2 h3 (by omega) hstep
      simp only [a1, a2, ifB_false, jump_true, J_ref03_Signs_2_1_eq, w1, w2, w3, w4, if_pos h]
      rw [show i + kk + 1 = i + (kk + 1) by omega]
      exact this
    · rw [if_neg h]
      by_cases h' : d.toNat < 128
      · have a1 : decide (((d.toNat : Nat) : Int) < 128) = true := by simp; omega
        simp only [a1, ifB_true, onL_some, X_ref03_Signs_1_2_eq]
      · have a1 : decide (((d.toNat : Nat) : Int) < 128) = false := by simp; omega
        have a2 : decide (((d.toNat : Nat) : Int) > 191) = true := by simp; omega
        simp only [a1, a2, ifB_true, ifB_false, onL_some, X_ref03_Signs_1_2_eq]
theorem signs_last1 (K n : Nat) (acc : List Int) (hacc : acc.length ≤ 8796093022208) (i nn : Nat) (c : Int) (h0 : 0 ≤ c) (hi : i + nn ≤ s.size) :
    K_ref03_Signs_1 Rt0 K true n (.exit 2) (X_ref03_Signs_1_3 s i nn c (acc.map (.int .i64))) = (if 1114111 < c ∨ (55296 ≤ c ∧ c < 57344) ∨ toB (putB c) ≠ (s.data.toList.drop i).take nn then some (.ret, X_ref03_Signs_2_3 false (acc.map (.int .i64))) else L_ref03_Signs_2_1 Rt0 K true n s ((i + nn : Nat) : Int) ((acc ++ [c]).map (.int .i64))) := by
  rw [X_ref03_Signs_1_3_eq]
  have ew : IntKind.wrap .i64 ((i : Int) + (nn : Int)) = ((i + nn : Nat) : Int) := by rw [wrap64 (by omega) (by omega)]; omega
  have ex : (s.data.toList.take (i + nn)).drop i = (s.data.toList.drop i).take nn := by rw [List.drop_take]; congr 1; omega
  have tail : 1114111 ≥ c → onR (Rt0 N_ref03_Put [.fz (.int .i64 c)]) (fun r0 => when (List.isEmpty r0.2 && allF [.fz] r0.1) (when ((FV.isSl (TV.toF (List.getD r0.1 0 TV.em))) && (List.all (FV.toSl (TV.toF (List.getD r0.1 0 TV.em))) (FV.fits 1 false))) (when (List.all (FV.toSl (TV.toF (List.getD r0.1 0 TV.em))) (FV.isInt .u8)) (when (decide (0 ≤ (IntKind.wrap .i64 ((i : Int) + (nn : Int)))) && decide ((IntKind.wrap .i64 ((i : Int) + (nn : Int))) ≤ (ByteArray.size s : Int))) (when (decide (0 ≤ (i : Int)) && decide ((i : Int) ≤ (IntKind.wrap .i64 ((i : Int) + (nn : Int))))) (ifB (!(ByteArray.toList (⟨(List.map (fun e => UInt8.ofNat (FV.toInt e).toNat) (FV.toSl (TV.toF (List.getD r0.1 0 TV.em)))).toArray⟩ : ByteArray) == ByteArray.toList (ByteArray.extract s (Int.toNat (i : Int)) (Int.toNat (IntKind.wrap .i64 ((i : Int) + (nn : Int)))))))
      (some (.ret, X_ref03_Signs_2_3 false (acc.map (.int .i64)))) (jump true (J_ref03_Signs_4_1 Rt0 K true n s i nn c (acc.map (.int .i64)))))))))) = (if toB (putB c) ≠ (s.data.toList.drop i).take nn then some (.ret, X_ref03_Signs_2_3 false (acc.map (.int .i64))) else L_ref03_Signs_2_1 Rt0 K true n s ((i + nn : Nat) : Int) ((acc ++ [c]).map (.int .i64))) := fun h1 => by
    rw [put3_ok h0 h1, onR_some, ew]
    have g1 : decide ((0 : Int) ≤ ((i + nn : Nat) : Int)) = true := by simp; omega
    have g2 : decide (((i + nn : Nat) : Int) ≤ (s.size : Int)) = true := by simp; omega
    have g3 : decide ((0 : Int) ≤ (i : Int)) = true := by simp
    have g4 : decide ((i : Int) ≤ ((i + nn : Nat) : Int)) = true := by simp; omega
    have g5 : (List.all ((putB c).map (FV.int .u8)) (FV.isInt .u8)) = true := by simp
    have g6 : List.map (fun e => UInt8.ofNat (FV.toInt e).toNat) ((putB c).map (FV.int .u8)) = toB (putB c) := by simp [toB, FV.toInt]
    have g7 : (⟨(toB (putB c)).toArray⟩ : ByteArray).toList = toB (putB c) := by rw [ByteArray.toList_eq]
    simp only [List.isEmpty_nil, allF_cons, allF_nil, Bool.and_true, when_true', List.getD_cons_zero, toF_fz, isSl_sl, toSl_sl, all_fits_int, g1, g2, g3, g4, g5, g6, g7, Int.toNat_natCast, extract_list, ex]
    by_cases h : toB (putB c) = (s.data.toList.drop i).take nn
    · have : (toB (putB c) == (s.data.toList.drop i).take nn) = true := by simpa using h
      rw [if_neg (by simpa using h)]
      have r1 : decide ((List.length (acc.map (FV.int .i64)) + List.length [FV.int .i64 c]) * 8 ≤ roomy) = true := by first | (simp [roomy]; done) | (simp [roomy]; omega)
      have r2 : decide (List.length (acc.map (FV.int .i64)) + List.length [FV.int .i64 c] ≤ roomy) = true := by first | (simp [roomy]; done) | (simp [roomy]; omega)
      simp only [this, Bool.not_true, ifB_false, jump_true, J_ref03_Signs_4_1_eq, ew, r1, r2, Bool.and_true, when_true']
      rw [List.map_append]; exact Eq.refl _
    · have : (toB (putB c) == (s.data.toList.drop i).take nn) = false := by simpa using h
      rw [if_pos (by simpa using h)]
      simp only [this, Bool.not_false, ifB_true]
  by_cases h1 : c ≤ 1114111
  · have a1 : decide (c > 1114111) = false := by simp; omega
    by_cases h2 : 55296 ≤ c
    · have a2 : decide (c ≥ 55296) = true := by simp; omega
      by_cases h3 : c < 57344
      · have a3 : decide (c < 57344) = true := by simp; omega
        rw [if_pos (.inr (.inl ⟨h2, h3⟩))]
        simp only [a1, a2, a3, ifB_false, ifB_true]
      · have a3 : decide (c < 57344) = false := by simp; omega
        have : (1114111 < c ∨ (55296 ≤ c ∧ c < 57344) ∨ toB (putB c) ≠ (s.data.toList.drop i).take nn) ↔ toB (putB c) ≠ (s.data.toList.drop i).take nn := ⟨fun h => by rcases h with h | h | h <;> first | exact h | omega, fun h => .inr (.inr h)⟩
        simp only [a1, a2, a3, ifB_false, ifB_true, this]
        exact tail h1
    · have a2 : decide (c ≥ 55296) = false := by simp; omega
      have : (1114111 < c ∨ (55296 ≤ c ∧ c < 57344) ∨ toB (putB c) ≠ (s.data.toList.drop i).take nn) ↔ toB (putB c) ≠ (s.data.toList.drop i).take nn := ⟨fun h => by rcases h with h | h | h <;> first | exact h | omega, fun h => .inr (.inr h)⟩
      simp only [a1, a2, ifB_false, this]
      exact tail h1
  · have a1 : decide (c > 1114111) = true := by simp; omega
    rw [if_pos (.inl (by omega))]
    simp only [a1, ifB_true]
theorem signs_round1 (K n : Nat) (hK : 5 ≤ K) (acc : List Int) (hacc : acc.length ≤ 8796093022208) (i : Nat) (hi : i < s.data.toList.length) :
    L_ref03_Signs_2_1 Rt0 K true (n + 1) s i (acc.map (.int .i64)) = (match sgn (s.data.toList.drop i) with
      | some (c, k) => L_ref03_Signs_2_1 Rt0 K true n s ((i + k : Nat) : Int) ((acc ++ [c]).map (.int .i64))
      | none => some (.ret, X_ref03_Signs_2_3 false (acc.map (.int .i64)))) := by
  have hbs := bytes_size s
  rw [L_ref03_Signs_2_1_eq, drop_cons hi]
  have e1 : decide ((i : Int) < (s.size : Int)) = true := by simp; omega
  have e2 : decide ((0 : Int) ≤ (i : Int)) = true := by simp
  simp only [e1, e2, ifB_true, Bool.and_true, when_true', Int.toNat_natCast, byteAt hi]
  have hdr : s.data.toList.drop i = s.data.toList[i] :: s.data.toList.drop (i + 1) := drop_cons hi
  have hlen : (s.data.toList.drop (i + 1)).length + 1 + i = s.size := by rw [List.length_drop]; omega
  generalize s.data.toList[i] = b at *
  have hb := u8_le b
  have e5 : IntKind.wrap .i64 ((b.toNat : Nat) : Int) = (b.toNat : Int) := wrap64 (by omega) (by omega)
  simp only [e5]
  have hN := headN_le b.toNat
  have j7 : (ifB (decide ((b.toNat : Int) ≥ 240)) (jump true (J_ref03_Signs_1_1 Rt0 K true n s i (b.toNat : Int) 1 (b.toNat : Int) (decide ((b.toNat : Int) < 248)) (acc.map (.int .i64)))) (jump true (J_ref03_Signs_1_1 Rt0 K true n s i (b.toNat : Int) 1 (b.toNat : Int) false (acc.map (.int .i64))))) = J_ref03_Signs_7_1 Rt0 K true n s i (b.toNat : Int) (headN b.toNat) (headC b.toNat) (acc.map (.int .i64)) := by
    unfold headN headC
    have w1 : 240 ≤ b.toNat → IntKind.wrap .i64 ((b.toNat : Int) - 240) = (b.toNat : Int) - 240 := fun _ => wrap64 (by omega) (by omega)
    have w2 : IntKind.wrap .i64 ((b.toNat : Int) - 224) = (b.toNat : Int) - 224 := wrap64 (by omega) (by omega)
    have w3 : IntKind.wrap .i64 ((b.toNat : Int) - 192) = (b.toNat : Int) - 192 := wrap64 (by omega) (by omega)
    by_cases h1 : 240 ≤ b.toNat
    · have a1 : decide ((b.toNat : Int) ≥ 240) = true := by simp; omega
      have a3 : decide ((b.toNat : Int) ≥ 224) = true := by simp; omega
      by_cases h2 : b.toNat < 248
      · have a2 : decide ((b.toNat : Int) < 248) = true := by simp; omega
        simp only [a1, a2, ifB_true, jump_true, J_ref03_Signs_1_1_eq, w1 h1, if_pos (show 240 ≤ b.toNat ∧ b.toNat < 248 from ⟨h1, h2⟩)]
        exact Eq.refl _
      · have a2 : decide ((b.toNat : Int) < 248) = false := by simp; omega
        simp only [a1, a2, a3, ifB_true, ifB_false, jump_true, J_ref03_Signs_1_1_eq, w2, if_neg (show ¬ (240 ≤ b.toNat ∧ b.toNat < 248) by omega), if_pos (show 224 ≤ b.toNat by omega)]
        exact Eq.refl _
    · have a1 : decide ((b.toNat : Int) ≥ 240) = false := by simp; omega
      rw [if_neg (show ¬ (240 ≤ b.toNat ∧ b.toNat < 248) by omega), if_neg (show ¬ (240 ≤ b.toNat ∧ b.toNat < 248) by omega)]
      by_cases h3 : 224 ≤ b.toNat
      · have a3 : decide ((b.toNat : Int) ≥ 224) = true := by simp; omega
        simp only [a1, a3, ifB_true, ifB_false, jump_true, J_ref03_Signs_1_1_eq, w2, if_pos h3]
        exact Eq.refl _
      · have a3 : decide ((b.toNat : Int) ≥ 224) = false := by simp; omega
        by_cases h4 : 192 ≤ b.toNat
        · have a4 : decide ((b.toNat : Int) ≥ 192) = true := by simp; omega
          simp only [a1, a3, a4, ifB_true, ifB_false, jump_true, J_ref03_Signs_1_1_eq, w3, if_neg h3, if_pos h4]
          exact Eq.refl _
        · have a4 : decide ((b.toNat : Int) ≥ 192) = false := by simp; omega
          simp only [a1, a3, a4, ifB_true, ifB_false, jump_true, J_ref03_Signs_1_1_eq, if_neg h3, if_neg h4]
          exact Eq.refl _
  rw [j7, J_ref03_Signs_7_1_eq]
  have ew : IntKind.wrap .i64 ((i : Int) + (headN b.toNat : Int)) = ((i + headN b.toNat : Nat) : Int) := by rw [wrap64 (by omega) (by omega)]; omega
  simp only [sgn]
  by_cases h1 : 248 ≤ b.toNat
  · have a1 : decide ((b.toNat : Int) ≥ 248) = true := by simp; omega
    rw [if_pos (.inl h1)]
    simp only [a1, ifB_true]
  · have a1 : decide ((b.toNat : Int) ≥ 248) = false := by simp; omega
    by_cases h2 : 128 ≤ b.toNat ∧ b.toNat < 192
    · have a2 : decide ((b.toNat : Int) ≥ 128) = true := by simp; omega
      have a3 : decide ((b.toNat : Int) < 192) = true := by simp; omega
      rw [if_pos (.inr (.inl h2))]
      simp only [a1, a2, a3, ifB_true, ifB_false]
    · by_cases h3 : (s.data.toList.drop (i + 1)).length + 1 < headN b.toNat
      · have a4 : decide (((i + headN b.toNat : Nat) : Int) > (s.size : Int)) = true := by simp; omega
        rw [if_pos (.inr (.inr h3))]
        by_cases h4 : 128 ≤ b.toNat
        · have a2 : decide ((b.toNat : Int) ≥ 128) = true := by simp; omega
          have a3 : decide ((b.toNat : Int) < 192) = false := by simp; omega
          simp only [a1, a2, a3, ew, a4, ifB_true, ifB_false]
        · have a2 : decide ((b.toNat : Int) ≥ 128) = false := by simp; omega
          simp only [a1, a2, ew, a4, ifB_true, ifB_false]
      · have a4 : decide (((i + headN b.toNat : Nat) : Int) > (s.size : Int)) = false := by simp; omega
        rw [if_neg (by rintro (h | h | h); exact h1 h; exact h2 h; exact h3 h)]
        have j6 : J_ref03_Signs_6_1 Rt0 K true n s i (headN b.toNat) (headC b.toNat) (acc.map (.int .i64)) = (match (match cont (headN b.toNat - 1) (headC b.toNat) (s.data.toList.drop (i + 1)) with
            | none => none
            | some c => if 1114111 < c ∨ (55296 ≤ c ∧ c < 57344) ∨ toB (putB c) ≠ (b :: s.data.toList.drop (i + 1)).take (headN b.toNat) then none else some (c, headN b.toNat)) with
            | some (c, k) => L_ref03_Signs_2_1 Rt0 K true n s ((i + k : Nat) : Int) ((acc ++ [c]).map (.int .i64))
            | none => some (.ret, X_ref03_Signs_2_3 false (acc.map (.int .i64)))) := by
          obtain ⟨K', rfl⟩ : ∃ m, K = m + 5 := ⟨K - 5, by omega⟩
          rw [J_ref03_Signs_6_1_eq]
          have hc := headC_le (show b.toNat < 248 by omega)
          have hp : (headC b.toNat + 1) * ((64 ^ (headN b.toNat - 1) : Nat) : Int) ≤ 1099511627776 := by
            have : ((64 ^ (headN b.toNat - 1) : Nat) : Int) ≤ 262144 := by
              have := Nat.pow_le_pow_right (show 0 < 64 by omega) (show headN b.toNat - 1 ≤ 3 by omega)
              omega
            have := Int.mul_le_mul_of_nonneg_left this (show 0 ≤ headC b.toNat + 1 by omega)
            omega
          have := inner1 s hs (K' + 5) n acc (headN b.toNat - 1) (K' + 5) i (headN b.toNat) 1 (headC b.toNat) (by omega) (by omega) hN.2 (by omega) hc.1 hp
          rw [show ((1 : Nat) : Int) = 1 from rfl] at this
          rw [this]
          cases hct : cont (headN b.toNat - 1) (headC b.toNat) (s.data.toList.drop (i + 1)) with
          | none => simp only []
          | some c =>
            have h0 := cont_nonneg _ _ _ _ hc.1 hct
            simp only []
            rw [signs_last1 s hs (K' + 5) n acc hacc i (headN b.toNat) c h0 (by omega), hdr]
            split
            · simp only []
            · simp only []
        by_cases h4 : 128 ≤ b.toNat
        · have a2 : decide ((b.toNat : Int) ≥ 128) = true := by simp; omega
          have a3 : decide ((b.toNat : Int) < 192) = false := by simp; omega
          simp only [a1, a2, a3, ew, a4, ifB_true, ifB_false, jump_true]
          exact j6
        · have a2 : decide ((b.toNat : Int) ≥ 128) = false := by simp; omega
          simp only [a1, a2, ew, a4, ifB_true, ifB_false, jump_true]
          exact j6
theorem inner0 (K n : Nat) : ∀ (j f i nn kk : Nat) (c : Int), j < f → kk + j = nn → nn ≤ 4 → i + nn ≤ s.size → 0 ≤ c → (c + 1) * (64 ^ j : Nat) ≤ 1099511627776 →
    onL (L_ref03_Signs_1_0 Rt0 K true f s i nn c kk) (K_ref03_Signs_1 Rt0 K true n) = (match cont j c (s.data.toList.drop (i + kk)) with
      | some c' => K_ref03_Signs_1 Rt0 K true n (.exit 2) (X_ref03_Signs_1_1 s i nn c')
      | none => some (.ret, X_ref03_Signs_2_1 false)) := by
  intro j
  have hbs := bytes_size s
  induction j with
  | zero =>
    intro f i nn kk c hf h1 h2 h3 h4 h5
    obtain ⟨f, rfl⟩ : ∃ m, f = m + 1 := ⟨f - 1, by omega⟩
    rw [L_ref03_Signs_1_0_eq]
    have : decide ((kk : Int) < (nn : Int)) = false := by simp; omega
    simp only [this, ifB_false, onL_some, cont]
  | succ j jh =>
    intro f i nn kk c hf h1 h2 h3 h4 h5
    obtain ⟨f, rfl⟩ : ∃ m, f = m + 1 := ⟨f - 1, by omega⟩
    have hc : c ≤ 1099511627776 := by
      have h0 : (1 : Int) ≤ ((64 ^ (j + 1) : Nat) : Int) := by
        have := Nat.pow_pos (n := j + 1) (show 0 < 64 by omega)
        omega
      have := Int.mul_le_mul_of_nonneg_left h0 (show 0 ≤ c + 1 by omega)
      omega
    have hl : i + kk < s.data.toList.length := by omega
    rw [L_ref03_Signs_1_0_eq, drop_cons hl]
    have e1 : decide ((kk : Int) < (nn : Int)) = true := by simp; omega
    have e2 : IntKind.wrap .i64 ((i : Int) + (kk : Int)) = ((i + kk : Nat) : Int) := by rw [wrap64 (by omega) (by omega)]; omega
    have e3 : decide (((i + kk : Nat) : Int) < (s.size : Int)) = true := by simp; omega
    have e4 : decide ((0 : Int) ≤ ((i + kk : Nat) : Int)) = true := by simp; omega
    simp only [e1, e2, e3, e4, ifB_true, Bool.and_true, when_true', Int.toNat_natCast, byteAt hl]
    generalize s.data.toList[i + kk] = d
    have hd := u8_le d
    have e5 : IntKind.wrap .i64 ((d.toNat : Nat) : Int) = (d.toNat : Int) := wrap64 (by omega) (by omega)
    simp only [e5, cont]
    by_cases h : 128 ≤ d.toNat ∧ d.toNat ≤ 191
    · have a1 : decide (((d.toNat : Nat) : Int) < 128) = false := by simp; omega
      have a2 : decide (((d.toNat : Nat) : Int) > 191) = false := by simp; omega
      have w1 : IntKind.wrap .i64 (64 * c) = 64 * c := wrap64 (by omega) (by omega)
      have w2 : IntKind.wrap .i64 (64 * c + (d.toNat : Int)) = 64 * c + (d.toNat : Int) := wrap64 (by omega) (by omega)
      have w3 : IntKind.wrap .i64 (64 * c + (d.toNat : Int) - 128) = 64 * c + (d.toNat : Int) - 128 := wrap64 (by omega) (by omega)
      have w4 : IntKind.wrap .i64 ((kk : Int) + 1) = ((kk + 1 : Nat) : Int) := by rw [wrap64 (by omega) (by omega)]; omega
      have hstep : (64 * c + (d.toNat : Int) - 128 + 1) * ((64 ^ j : Nat) : Int) ≤ 1099511627776 := by
        rw [Nat.pow_succ, Int.natCast_mul, show ((64 : Nat) : Int) = 64 from rfl] at h5
        have hp : (0 : Int) ≤ ((64 ^ j : Nat) : Int) := Int.natCast_nonneg _
        generalize ((64 ^ j : Nat) : Int) = p at h5 hp
        have := Int.mul_le_mul_of_nonneg_right (show 64 * c + (d.toNat : Int) - 128 + 1 ≤ (c + 1) * 64 by omega) hp
        rw [Int.mul_assoc, Int.mul_comm 64 p] at this
        exact Int.le_trans this h5
      have := jh f i nn (kk + 1) (64 * c + (d.toNat : Int) - 128) (by omega) (by omega) h2 h3 (by omega) hstep
      simp only [a1, a2, ifB_false, jump_true, J_ref03_Signs_2_0_eq, w1, w2, w3, w4, if_pos h]
      rw [show i + kk + 1 = i + (kk + 1) by omega]
      exact this
    · rw [if_neg h]
      by_cases h' : d.toNat < 128
      · have a1 : decide (((d.toNat : Nat) : Int) < 128) = true := by simp; omega
        simp only [a1, ifB_true, onL_some, X_ref03_Signs_1_0_eq]
      · have a1 : decide (((d.toNat : Nat) : Int) < 128) = false := by simp; omega
        have a2 : decide (((d.toNat : Nat) : Int) > 191) = true := by simp; omega
        simp only [a1, a2, ifB_true, ifB_false, onL_some, X_ref03_Signs_1_0_eq]
theorem signs_last0 (K n : Nat) (hacc : 0 ≤ 8796093022208) (i nn : Nat) (c : Int) (h0 : 0 ≤ c) (hi : i + nn ≤ s.size) :
    K_ref03_Signs_1 Rt0 K true n (.exit 2) (X_ref03_Signs_1_1 s i nn c) = (if 1114111 < c ∨ (55296 ≤ c ∧ c < 57344) ∨ toB (putB c) ≠ (s.data.toList.drop i).take nn then some (.ret, X_ref03_Signs_2_1 false) else L_ref03_Signs_2_1 Rt0 K true n s ((i + nn : Nat) : Int) ([.int .i64 c])) := by
  rw [X_ref03_Signs_1_1_eq]
  have ew : IntKind.wrap .i64 ((i : Int) + (nn : Int)) = ((i + nn : Nat) : Int) := by rw [wrap64 (by omega) (by omega)]; omega
  have ex : (s.data.toList.take (i + nn)).drop i = (s.data.toList.drop i).take nn := by rw [List.drop_take]; congr 1; omega
  have tail : 1114111 ≥ c → onR (Rt0 N_ref03_Put [.fz (.int .i64 c)]) (fun r0 => when (List.isEmpty r0.2 && allF [.fz] r0.1) (when ((FV.isSl (TV.toF (List.getD r0.1 0 TV.em))) && (List.all (FV.toSl (TV.toF (List.getD r0.1 0 TV.em))) (FV.fits 1 false))) (when (List.all (FV.toSl (TV.toF (List.getD r0.1 0 TV.em))) (FV.isInt .u8)) (when (decide (0 ≤ (IntKind.wrap .i64 ((i : Int) + (nn : Int)))) && decide ((IntKind.wrap .i64 ((i : Int) + (nn : Int))) ≤ (ByteArray.size s : Int))) (when (decide (0 ≤ (i : Int)) && decide ((i : Int) ≤ (IntKind.wrap .i64 ((i : Int) + (nn : Int))))) (ifB (!(ByteArray.toList (⟨(List.map (fun e => UInt8.ofNat (FV.toInt e).toNat) (FV.toSl (TV.toF (List.getD r0.1 0 TV.em)))).toArray⟩ : ByteArray) == ByteArray.toList (ByteArray.extract s (Int.toNat (i : Int)) (Int.toNat (IntKind.wrap .i64 ((i : Int) + (nn : Int)))))))
      (some (.ret, X_ref03_Signs_2_1 false)) (jump true (J_ref03_Signs_4_0 Rt0 K true n s i nn c)))))))) = (if toB (putB c) ≠ (s.data.toList.drop i).take nn then some (.ret, X_ref03_Signs_2_1 false) else L_ref03_Signs_2_1 Rt0 K true n s ((i + nn : Nat) : Int) ([.int .i64 c])) := fun h1 => by
    rw [put3_ok h0 h1, onR_some, ew]
    have g1 : decide ((0 : Int) ≤ ((i + nn : Nat) : Int)) = true := by simp; omega
    have g2 : decide (((i + nn : Nat) : Int) ≤ (s.size : Int)) = true := by simp; omega
    have g3 : decide ((0 : Int) ≤ (i : Int)) = true := by simp
    have g4 : decide ((i : Int) ≤ ((i + nn : Nat) : Int)) = true := by simp; omega
    have g5 : (List.all ((putB c).map (FV.int .u8)) (FV.isInt .u8)) = true := by simp
    have g6 : List.map (fun e => UInt8.ofNat (FV.toInt e).toNat) ((putB c).map (FV.int .u8)) = toB (putB c) := by simp [toB, FV.toInt]
    have g7 : (⟨(toB (putB c)).toArray⟩ : ByteArray).toList = toB (putB c) := by rw [ByteArray.toList_eq]
    simp only [List.isEmpty_nil, allF_cons, allF_nil, Bool.and_true, when_true', List.getD_cons_zero, toF_fz, isSl_sl, toSl_sl, all_fits_int, g1, g2, g3, g4, g5, g6, g7, Int.toNat_natCast, extract_list, ex]
    by_cases h : toB (putB c) = (s.data.toList.drop i).take nn
    · have : (toB (putB c) == (s.data.toList.drop i).take nn) = true := by simpa using h
      rw [if_neg (by simpa using h)]
      have r1 : decide (((0 : Nat) + List.length [FV.int .i64 c]) * 8 ≤ roomy) = true := by first | (simp [roomy]; done) | (simp [roomy]; omega)
      have r2 : decide ((0 : Nat) + List.length [FV.int .i64 c] ≤ roomy) = true := by first | (simp [roomy]; done) | (simp [roomy]; omega)
      simp only [this, Bool.not_true, ifB_false, jump_true, J_ref03_Signs_4_0_eq, ew, r1, r2, Bool.and_true, when_true']
      skip
    · have : (toB (putB c) == (s.data.toList.drop i).take nn) = false := by simpa using h
      rw [if_pos (by simpa using h)]
      simp only [this, Bool.not_false, ifB_true]
  by_cases h1 : c ≤ 1114111
  · have a1 : decide (c > 1114111) = false := by simp; omega
    by_cases h2 : 55296 ≤ c
    · have a2 : decide (c ≥ 55296) = true := by simp; omega
      by_cases h3 : c < 57344
      · have a3 : decide (c < 57344) = true := by simp; omega
        rw [if_pos (.inr (.inl ⟨h2, h3⟩))]
        simp only [a1, a2, a3, ifB_false, ifB_true]
      · have a3 : decide (c < 57344) = false := by simp; omega
        have : (1114111 < c ∨ (55296 ≤ c ∧ c < 57344) ∨ toB (putB c) ≠ (s.data.toList.drop i).take nn) ↔ toB (putB c) ≠ (s.data.toList.drop i).take nn := ⟨fun h => by rcases h with h | h | h <;> first | exact h | omega, fun h => .inr (.inr h)⟩
        simp only [a1, a2, a3, ifB_false, ifB_true, this]
        exact tail h1
    · have a2 : decide (c ≥ 55296) = false := by simp; omega
      have : (1114111 < c ∨ (55296 ≤ c ∧ c < 57344) ∨ toB (putB c) ≠ (s.data.toList.drop i).take nn) ↔ toB (putB c) ≠ (s.data.toList.drop i).take nn := ⟨fun h => by rcases h with h | h | h <;> first | exact h | omega, fun h => .inr (.inr h)⟩
      simp only [a1, a2, ifB_false, this]
      exact tail h1
  · have a1 : decide (c > 1114111) = true := by simp; omega
    rw [if_pos (.inl (by omega))]
    simp only [a1, ifB_true]
theorem signs_round0 (K n : Nat) (hK : 5 ≤ K) (hacc : 0 ≤ 8796093022208) (i : Nat) (hi : i < s.data.toList.length) :
    L_ref03_Signs_2_0 Rt0 K true (n + 1) s i = (match sgn (s.data.toList.drop i) with
      | some (c, k) => L_ref03_Signs_2_1 Rt0 K true n s ((i + k : Nat) : Int) ([.int .i64 c])
      | none => some (.ret, X_ref03_Signs_2_1 false)) := by
  have hbs := bytes_size s
  rw [L_ref03_Signs_2_0_eq, drop_cons hi]
  have e1 : decide ((i : Int) < (s.size : Int)) = true := by simp; omega
  have e2 : decide ((0 : Int) ≤ (i : Int)) = true := by simp
  simp only [e1, e2, ifB_true, Bool.and_true, when_true', Int.toNat_natCast, byteAt hi]
  have hdr : s.data.toList.drop i = s.data.toList[i] :: s.data.toList.drop (i + 1) := drop_cons hi
  have hlen : (s.data.toList.drop (i + 1)).length + 1 + i = s.size := by rw [List.length_drop]; omega
  generalize s.data.toList[i] = b at *
  have hb := u8_le b
  have e5 : IntKind.wrap .i64 ((b.toNat : Nat) : Int) = (b.toNat : Int) := wrap64 (by omega) (by omega)
  simp only [e5]
  have hN := headN_le b.toNat
  have j7 : (ifB (decide ((b.toNat : Int) ≥ 240)) (jump true (J_ref03_Signs_1_0 Rt0 K true n s i (b.toNat : Int) 1 (b.toNat : Int) (decide ((b.toNat : Int) < 248)))) (jump true (J_ref03_Signs_1_0 Rt0 K true n s i (b.toNat : Int) 1 (b.toNat : Int) false))) = J_ref03_Signs_7_0 Rt0 K true n s i (b.toNat : Int) (headN b.toNat) (headC b.toNat) := by
    unfold headN headC
    have w1 : 240 ≤ b.toNat → IntKind.wrap .i64 ((b.toNat : Int) - 240) = (b.toNat : Int) - 240 := fun _ => wrap64 (by omega) (by omega)
    have w2 : IntKind.wrap .i64 ((b.toNat : Int) - 224) = (b.toNat : Int) - 224 := wrap64 (by omega) (by omega)
    have w3 : IntKind.wrap .i64 ((b.toNat : Int) - 192) = (b.toNat : Int) - 192 := wrap64 (by omega) (by omega)
    by_cases h1 : 240 ≤ b.toNat
    · have a1 : decide ((b.toNat : Int) ≥ 240) = true := by simp; omega
      have a3 : decide ((b.toNat : Int) ≥ 224) = true := by simp; omega
      by_cases h2 : b.toNat < 248
      · have a2 : decide ((b.toNat : Int) < 248) = true := by simp; omega
        simp only [a1, a2, ifB_true, jump_true, J_ref03_Signs_1_0_eq, w1 h1, if_pos (show 240 ≤ b.toNat ∧ b.toNat < 248 from ⟨h1, h2⟩)]
        exact Eq.refl _
      · have a2 : decide ((b.toNat : Int) < 248) = false := by simp; omega
        simp only [a1, a2, a3, ifB_true, ifB_false, jump_true, J_ref03_Signs_1_0_eq, w2, if_neg (show ¬ (240 ≤ b.toNat ∧ b.toNat < 248) by omega), if_pos (show 224 ≤ b.toNat by omega)]
        exact Eq.refl _
    · have a1 : decide ((b.toNat : Int) ≥ 240) = false := by simp; omega
      rw [if_neg (show ¬ (240 ≤ b.toNat ∧ b.toNat < 248) by omega), if_neg (show ¬ (240 ≤ b.toNat ∧ b.toNat < 248) by omega)]
      by_cases h3 : 224 ≤ b.toNat
      · have a3 : decide ((b.toNat : Int) ≥ 224) = true := by simp; omega
        simp only [a1, a3, ifB_true, ifB_false, jump_true, J_ref03_Signs_1_0_eq, w2, if_pos h3]
        exact Eq.refl _
      · have a3 : decide ((b.toNat : Int) ≥ 224) = false := by simp; omega
        by_cases h4 : 192 ≤ b.toNat
        · have a4 : decide ((b.toNat : Int) ≥ 192) = true := by simp; omega
          simp only [a1, a3, a4, ifB_true, ifB_false, jump_true, J_ref03_Signs_1_0_eq, w3, if_neg h3, if_pos h4]
          exact Eq.refl _
        · have a4 : decide ((b.toNat : Int) ≥ 192) = false := by simp; omega
          simp only [a1, a3, a4, ifB_true, ifB_false, jump_true, J_ref03_Signs_1_0_eq, if_neg h3, if_neg h4]
          exact Eq.refl _
  rw [j7, J_ref03_Signs_7_0_eq]
  have ew : IntKind.wrap .i64 ((i : Int) + (headN b.toNat : Int)) = ((i + headN b.toNat : Nat) : Int) := by rw [wrap64 (by omega) (by omega)]; omega
  simp only [sgn]
  by_cases h1 : 248 ≤ b.toNat
  · have a1 : decide ((b.toNat : Int) ≥ 248) = true := by simp; omega
    rw [if_pos (.inl h1)]
    simp only [a1, ifB_true]
  · have a1 : decide ((b.toNat : Int) ≥ 248) = false := by simp; omega
    by_cases h2 : 128 ≤ b.toNat ∧ b.toNat < 192
    · have a2 : decide ((b.toNat : Int) ≥ 128) = true := by simp; omega
      have a3 : decide ((b.toNat : Int) < 192) = true := by simp; omega
      rw [if_pos (.inr (.inl h2))]
      simp only [a1, a2, a3, ifB_true, ifB_false]
    · by_cases h3 : (s.data.toList.drop (i + 1)).length + 1 < headN b.toNat
      · have a4 : decide (((i + headN b.toNat : Nat) : Int) > (s.size : Int)) = true := by simp; omega
        rw [if_pos (.inr (.inr h3))]
        by_cases h4 : 128 ≤ b.toNat
        · have a2 : decide ((b.toNat : Int) ≥ 128) = true := by simp; omega
          have a3 : decide ((b.toNat : Int) < 192) = false := by simp; omega
          simp only [a1, a2, a3, ew, a4, ifB_true, ifB_false]
        · have a2 : decide ((b.toNat : Int) ≥ 128) = false := by simp; omega
          simp only [a1, a2, ew, a4, ifB_true, ifB_false]
      · have a4 : decide (((i + headN b.toNat : Nat) : Int) > (s.size : Int)) = false := by simp; omega
        rw [if_neg (by rintro (h | h | h); exact h1 h; exact h2 h; exact h3 h)]
        have j6 : J_ref03_Signs_6_0 Rt0 K true n s i (headN b.toNat) (headC b.toNat) = (match (match cont (headN b.toNat - 1) (headC b.toNat) (s.data.toList.drop (i + 1)) with
            | none => none
            | some c => if 1114111 < c ∨ (55296 ≤ c ∧ c < 57344) ∨ toB (putB c) ≠ (b :: s.data.toList.drop (i + 1)).take (headN b.toNat) then none else some (c, headN b.toNat)) with
            | some (c, k) => L_ref03_Signs_2_1 Rt0 K true n s ((i + k : Nat) : Int) ([.int .i64 c])
            | none => some (.ret, X_ref03_Signs_2_1 false)) := by
          obtain ⟨K', rfl⟩ : ∃ m, K = m + 5 := ⟨K - 5, by omega⟩
          rw [J_ref03_Signs_6_0_eq]
          have hc := headC_le (show b.toNat < 248 by omega)
          have hp : (headC b.toNat + 1) * ((64 ^ (headN b.toNat - 1) : Nat) : Int) ≤ 1099511627776 := by
            have : ((64 ^ (headN b.toNat - 1) : Nat) : Int) ≤ 262144 := by
              have := Nat.pow_le_pow_right (show 0 < 64 by omega) (show headN b.toNat - 1 ≤ 3 by omega)
              omega
            have := Int.mul_le_mul_of_nonneg_left this (show 0 ≤ headC b.toNat + 1 by omega)
            omega
          have := inner0 s hs (K' + 5) n (headN b.toNat - 1) (K' + 5) i (headN b.toNat) 1 (headC b.toNat) (by omega) (by omega) hN.2 (by omega) hc.1 hp
          rw [show ((1 : Nat) : Int) = 1 from rfl] at this
          rw [this]
          cases hct : cont (headN b.toNat - 1) (headC b.toNat) (s.data.toList.drop (i + 1)) with
          | none => simp only []
          | some c =>
            have h0 := cont_nonneg _ _ _ _ hc.1 hct
            simp only []
            rw [signs_last0 s hs (K' + 5) n hacc i (headN b.toNat) c h0 (by omega), hdr]
            split
            · simp only []
            · simp only []
        by_cases h4 : 128 ≤ b.toNat
        · have a2 : decide ((b.toNat : Int) ≥ 128) = true := by simp; omega
          have a3 : decide ((b.toNat : Int) < 192) = false := by simp; omega
          simp only [a1, a2, a3, ew, a4, ifB_true, ifB_false, jump_true]
          exact j6
        · have a2 : decide ((b.toNat : Int) ≥ 128) = false := by simp; omega
          simp only [a1, a2, ew, a4, ifB_true, ifB_false, jump_true]
          exact j6
end
end Go.Ab
end
section
namespace Go.Ab
theorem sgn_pos {l : List UInt8} {c : Int} {k : Nat} (h : sgn l = some (c, k)) : 1 ≤ k ∧ k ≤ l.length ∧ 0 ≤ c ∧ c ≤ 1114111 := by
  cases l with
  | nil => cases h
  | cons b r =>
    simp only [sgn] at h
    split at h
    · cases h
    · rename_i h1
      have hb : b.toNat < 248 := Nat.lt_of_not_le fun e => h1 (.inl e)
      have hN := headN_le b.toNat
      split at h
      · cases h
      · rename_i c' hc
        have := cont_nonneg _ _ _ _ (headC_le hb).1 hc
        split at h
        · cases h
        · rename_i h2
          simp only [Option.some.injEq, Prod.mk.injEq] at h
          obtain ⟨rfl, rfl⟩ := h
          refine ⟨hN.1, ?_, this, Int.not_lt.1 fun e => h2 (.inl e)⟩
          have : ¬ (r.length + 1 < headN b.toNat) := fun e => h1 (.inr (.inr e))
          simp only [List.length_cons]; omega
section
variable (s : ByteArray) (hs : s.size ≤ 8796093022208)
include hs
theorem signs_loop (K : Nat) (hK : 5 ≤ K) : ∀ (n f i : Nat) (acc : List Int), n < f → s.data.toList.length ≤ i + n → acc.length ≤ i → i ≤ s.data.toList.length →
    onL (L_ref03_Signs_2_1 Rt0 K true f s i (acc.map (.int .i64))) (K_ref03_Signs_2 Rt0 K true) = (match signsN n (s.data.toList.drop i) with
      | some cs => some ([.fz (.sl ((acc ++ cs).map (.int .i64))), .fz (.bool true)], [])
      | none => some ([.fz (.sl []), .fz (.bool false)], [])) := by
  have hbs := bytes_size s
  intro n
  induction n with
  | zero =>
    intro f i acc hf hn ha hi
    obtain ⟨f, rfl⟩ : ∃ m, f = m + 1 := ⟨f - 1, by omega⟩
    have e1 : decide ((i : Int) < (s.size : Int)) = false := by simp; omega
    rw [L_ref03_Signs_2_1_eq, List.drop_eq_nil_of_le (show s.data.toList.length ≤ i by omega)]
    simp only [e1, ifB_false, onL_some, X_ref03_Signs_2_2_eq, signsN, List.append_nil]
  | succ n ih =>
    intro f i acc hf hn ha hi
    obtain ⟨f, rfl⟩ : ∃ m, f = m + 1 := ⟨f - 1, by omega⟩
    by_cases hl : i < s.data.toList.length
    · rw [signs_round1 s hs K f hK acc (by omega) i hl]
      rw [drop_cons hl]
      simp only [signsN]
      rw [← drop_cons hl]
      cases hg : sgn (s.data.toList.drop i) with
      | none => simp only [onL_some, X_ref03_Signs_2_3_eq]
      | some p =>
        obtain ⟨c, k⟩ := p
        obtain ⟨k1, k2, c0, c1⟩ := sgn_pos hg
        rw [List.length_drop] at k2
        have := ih f (i + k) (acc ++ [c]) (by omega) (by omega) (by simp; omega) (by omega)
        simp only []
        rw [this, List.drop_drop]
        cases signsN n (s.data.toList.drop (i + k)) with
        | none => rfl
        | some cs => simp
    · have e1 : decide ((i : Int) < (s.size : Int)) = false := by simp; omega
      rw [L_ref03_Signs_2_1_eq, List.drop_eq_nil_of_le (show s.data.toList.length ≤ i by omega)]
      simp only [e1, ifB_false, onL_some, X_ref03_Signs_2_2_eq, signsN, List.append_nil]
theorem signs_ok : Rt0 N_ref03_Signs [.fz (.str s)] = (match signsL s.data.toList with
      | some cs => some ([.fz (.sl (cs.map (.int .i64))), .fz (.bool true)], [])
      | none => some ([.fz (.sl []), .fz (.bool false)], [])) := by
  have hbs := bytes_size s
  have key : onL (L_ref03_Signs_2_0 Rt0 (s.data.toList.length + 6) true (s.data.toList.length + 6) s ((0 : Nat) : Int)) (K_ref03_Signs_2 Rt0 (s.data.toList.length + 6) true) = (match signsL s.data.toList with
      | some cs => some ([.fz (.sl (cs.map (.int .i64))), .fz (.bool true)], [])
      | none => some ([.fz (.sl []), .fz (.bool false)], [])) := by
    by_cases hl : 0 < s.data.toList.length
    · rw [signs_round0 s hs _ (s.data.toList.length + 5) (by omega) (by omega) 0 hl, List.drop_zero]
      obtain ⟨m, hm⟩ : ∃ m, s.data.toList.length = m + 1 := ⟨_, (Nat.sub_one_add_one (by omega)).symm⟩
      have hcons : s.data.toList = s.data.toList[0] :: s.data.toList.drop 1 := by have := drop_cons hl; rwa [List.drop_zero] at this
      have hu : signsL s.data.toList = (match sgn s.data.toList with
          | none => none
          | some (c, k) => (signsN m (s.data.toList.drop k)).map (c :: ·)) := by
        unfold signsL
        rw [hm, hcons]
        simp only [signsN]
        try (cases sgn (s.data.toList[0] :: s.data.toList.drop 1) <;> rfl)
      rw [hu]
      cases hg : sgn s.data.toList with
      | none => simp only [onL_some, X_ref03_Signs_2_1_eq]
      | some p =>
        obtain ⟨c, k⟩ := p
        obtain ⟨k1, k2, c0, c1⟩ := sgn_pos hg
        have := signs_loop s hs (s.data.toList.length + 6) (by omega) m (s.data.toList.length + 5) k [c] (by omega) (by omega) (by simp; omega) (by omega)
        simp only [Nat.zero_add]
        rw [show [FV.int .i64 c] = [c].map (FV.int .i64) from rfl, this]
        cases signsN m (s.data.toList.drop k) with
        | none => rfl
        | some cs => rfl
    · have h0 : s.data.toList = [] := List.length_eq_zero_iff.1 (by omega)
      have hz : s.size = 0 := by omega
      have e1 : decide (((0 : Nat) : Int) < (s.size : Int)) = false := by rw [hz]; rfl
      rw [L_ref03_Signs_2_0_eq, h0]
      simp only [e1, ifB_false, onL_some, X_ref03_Signs_2_0_eq, signsL, signsN]
      rfl
  have hE := E_ref03_Signs Rt0 (s.data.toList.length + 6) true s
  rw [show ((0 : Nat) : Int) = 0 from rfl] at key
  rw [key] at hE
  cases hq : signsL s.data.toList with
  | none => rw [hq] at hE; exact rt_call0 A_ref03_Signs rfl rfl (s.data.toList.length + 6) hE
  | some cs => rw [hq] at hE; exact rt_call0 A_ref03_Signs rfl rfl (s.data.toList.length + 6) hE
end
end Go.Ab
end
section
namespace Go.Ab
def contB (d : UInt8) : Bool := decide (128 ≤ d.toNat ∧ d.toNat ≤ 191)
def tailB : List UInt8 → Nat → Nat → Nat → Bool
  | _ :: b :: r, n, lo, hi => decide (lo ≤ b.toNat ∧ b.toNat ≤ hi) && (decide (n ≤ r.length + 1) && (r.take (n - 1)).all contB)
  | _, _, _, _ => false
def sizeB : List UInt8 → Nat
  | [] => 0
  | c :: r =>
    if c.toNat < 128 then 1
    else if decide (194 ≤ c.toNat) && (decide (c.toNat ≤ 223) && tailB (c :: r) 1 128 191) then 2
    else if (decide (c.toNat = 224) && tailB (c :: r) 2 160 191) || ((decide (225 ≤ c.toNat) && (decide (c.toNat ≤ 239) && (!decide (c.toNat = 237) && tailB (c :: r) 2 128 191))) || (decide (c.toNat = 237) && tailB (c :: r) 2 128 159)) then 3
    else if (decide (c.toNat = 240) && tailB (c :: r) 3 144 191) || ((decide (241 ≤ c.toNat) && (decide (c.toNat ≤ 243) && tailB (c :: r) 3 128 191)) || (decide (c.toNat = 244) && tailB (c :: r) 3 128 143)) then 4
    else 0
theorem u8_eq {e : Int} (h0 : 0 ≤ e) (h1 : e ≤ 255) (c : UInt8) : UInt8.ofNat e.toNat = c ↔ e = (c.toNat : Int) := by
  have hc := c.toNat_lt
  constructor
  · intro h
    have := congrArg UInt8.toNat h
    rw [UInt8.toNat_ofNat_of_lt' (show e.toNat < 256 by omega)] at this
    omega
  · intro h
    apply UInt8.toNat_inj.1
    rw [UInt8.toNat_ofNat_of_lt' (show e.toNat < 256 by omega)]
    omega
def badV (c : UInt8) (r : List UInt8) (v : Int) : Prop := 1114111 < v ∨ (55296 ≤ v ∧ v < 57344) ∨ toB (putB v) ≠ (c :: r).take (headN c.toNat)
section
variable {c : UInt8} {r : List UInt8} (hb : ¬ (248 ≤ c.toNat ∨ (128 ≤ c.toNat ∧ c.toNat < 192) ∨ r.length + 1 < headN c.toNat))
include hb
theorem sgn_bad {v : Int} (hc : cont (headN c.toNat - 1) (headC c.toNat) r = some v) (h : badV c r v) : sgn (c :: r) = none := by
  simp only [sgn]
  rw [if_neg hb, hc]
  unfold badV at h
  simp only []
  rw [if_pos h]
theorem sgn_good {v : Int} (hc : cont (headN c.toNat - 1) (headC c.toNat) r = some v) (h : ¬ badV c r v) : sgn (c :: r) = some (v, headN c.toNat) := by
  simp only [sgn]
  rw [if_neg hb, hc]
  unfold badV at h
  simp only []
  rw [if_neg h]
theorem sgn_nocont (hc : cont (headN c.toNat - 1) (headC c.toNat) r = none) : sgn (c :: r) = none := by
  simp only [sgn]
  rw [if_neg hb, hc]
end
theorem sgn_short {c : UInt8} {r : List UInt8} (hb : 248 ≤ c.toNat ∨ (128 ≤ c.toNat ∧ c.toNat < 192) ∨ r.length + 1 < headN c.toNat) : sgn (c :: r) = none := by
  simp only [sgn]
  rw [if_pos hb]
theorem size_sgn (c : UInt8) (r : List UInt8) : sizeB (c :: r) = (match sgn (c :: r) with | some p => p.2 | none => 0) := by
  have hc := u8_le c
  by_cases h1 : c.toNat < 128
  · have hN : headN c.toNat = 1 := by unfold headN; rw [if_neg (by omega), if_neg (by omega), if_neg (by omega)]
    have hC : headC c.toNat = c.toNat := by unfold headC; rw [if_neg (by omega), if_neg (by omega), if_neg (by omega)]
    have hp : putB (c.toNat : Int) = [(c.toNat : Int)] := by unfold putB; rw [if_pos (by omega)]
    have he : toB [(c.toNat : Int)] = [c] := by simp [toB]
    have hs := sgn_good (c := c) (r := r) (v := (c.toNat : Int)) (by rw [hN]; omega) (by rw [hN, hC]; rfl) (by unfold badV; rw [hN, hp, he]; simp; omega)
    rw [hs, hN]
    simp [sizeB, h1]
  by_cases h2 : c.toNat < 192
  · rw [sgn_short (.inr (.inl ⟨by omega, h2⟩))]
    have e1 : ¬ 194 ≤ c.toNat := by omega
    have e2 : ¬ c.toNat = 224 := by omega
    have e3 : ¬ 225 ≤ c.toNat := by omega
    have e4 : ¬ c.toNat = 237 := by omega
    have e5 : ¬ c.toNat = 240 := by omega
    have e6 : ¬ 241 ≤ c.toNat := by omega
    have e7 : ¬ c.toNat = 244 := by omega
    simp [sizeB, h1, e1, e2, e3, e4, e5, e6, e7]
  by_cases h3 : c.toNat < 224
  · have hN : headN c.toNat = 2 := by unfold headN; rw [if_neg (by omega), if_neg (by omega), if_pos (by omega)]
    have hC : headC c.toNat = (c.toNat : Int) - 192 := by unfold headC; rw [if_neg (by omega), if_neg (by omega), if_pos (by omega)]
    have e2 : ¬ c.toNat = 224 := by omega
    have e3 : ¬ 225 ≤ c.toNat := by omega
    have e4 : ¬ c.toNat = 237 := by omega
    have e5 : ¬ c.toNat = 240 := by omega
    have e6 : ¬ 241 ≤ c.toNat := by omega
    have e7 : ¬ c.toNat = 244 := by omega
    have e8 : c.toNat ≤ 223 := by omega
    match r with
    | [] =>
      rw [sgn_short (.inr (.inr (by rw [hN]; simp)))]
      simp [sizeB, tailB, h1]
    | d :: r =>
      have hd := u8_le d
      have hb : ¬ (248 ≤ c.toNat ∨ (128 ≤ c.toNat ∧ c.toNat < 192) ∨ (d :: r).length + 1 < headN c.toNat) := by rw [hN]; simp only [List.length_cons]; omega
      by_cases hcd : 128 ≤ d.toNat ∧ d.toNat ≤ 191
      · obtain ⟨v, hv⟩ : ∃ v, v = 64 * ((c.toNat : Int) - 192) + (d.toNat : Int) - 128 := ⟨_, rfl⟩
        have hct : cont (headN c.toNat - 1) (headC c.toNat) (d :: r) = some v := by rw [hN, hC, hv]; simp only [cont, if_pos hcd]
        by_cases hlow : 194 ≤ c.toNat
        · have hp : putB v = [192 + v / 64, 128 + v % 64] := by unfold putB; rw [if_neg (by omega), if_pos (by omega)]
          have q1 : UInt8.ofNat (192 + v / 64).toNat = c := (u8_eq (by omega) (by omega) c).2 (by omega)
          have q2 : UInt8.ofNat (128 + v % 64).toNat = d := (u8_eq (by omega) (by omega) d).2 (by omega)
          have he : toB (putB v) = [c, d] := by rw [hp]; simp [toB, q1, q2]
          rw [sgn_good hb hct (by unfold badV; rw [hN, he]; simp; omega), hN]
          simp [sizeB, tailB, h1, hcd, hlow, e8]
        · have hp : putB v = [v] := by unfold putB; rw [if_pos (by omega)]
          rw [sgn_bad hb hct (.inr (.inr (by rw [hN, hp]; simp [toB])))]
          simp [sizeB, tailB, h1, hlow, e2, e3, e4, e5, e6, e7]
      · rw [sgn_nocont hb (by rw [hN, hC]; simp only [cont, if_neg hcd])]
        simp [sizeB, tailB, h1, hcd, e2, e3, e4, e5, e6, e7]
  by_cases h4 : c.toNat < 240
  · have hN : headN c.toNat = 3 := by unfold headN; rw [if_neg (by omega), if_pos (by omega)]
    have hC : headC c.toNat = (c.toNat : Int) - 224 := by unfold headC; rw [if_neg (by omega), if_pos (by omega)]
    have e5 : ¬ c.toNat = 240 := by omega
    have e6 : ¬ 241 ≤ c.toNat := by omega
    have e7 : ¬ c.toNat = 244 := by omega
    have e8 : ¬ c.toNat ≤ 223 := by omega
    have e9 : c.toNat ≤ 239 := by omega
    match r with
    | [] =>
      rw [sgn_short (.inr (.inr (by rw [hN]; simp)))]
      simp [sizeB, tailB, h1]
    | [d] =>
      rw [sgn_short (.inr (.inr (by rw [hN]; simp)))]
      simp [sizeB, tailB, h1, e8]
    | d :: e :: r =>
      have hd := u8_le d
      have he0 := u8_le e
      have hb : ¬ (248 ≤ c.toNat ∨ (128 ≤ c.toNat ∧ c.toNat < 192) ∨ (d :: e :: r).length + 1 < headN c.toNat) := by rw [hN]; simp only [List.length_cons]; omega
      by_cases hcd : 128 ≤ d.toNat ∧ d.toNat ≤ 191
      · by_cases hce : 128 ≤ e.toNat ∧ e.toNat ≤ 191
        · obtain ⟨v, hv⟩ : ∃ v, v = 64 * (64 * ((c.toNat : Int) - 224) + (d.toNat : Int) - 128) + (e.toNat : Int) - 128 := ⟨_, rfl⟩
          have hct : cont (headN c.toNat - 1) (headC c.toNat) (d :: e :: r) = some v := by rw [hN, hC, hv]; simp only [cont, if_pos hcd, if_pos hce]
          have hce' : contB e = true := by simp [contB, hce]
          by_cases hlow : 2048 ≤ v
          · have hp : putB v = [224 + v / 4096, 128 + v / 64 % 64, 128 + v % 64] := by unfold putB; rw [if_neg (by omega), if_neg (by omega), if_pos (by omega)]
            have q1 : UInt8.ofNat (224 + v / 4096).toNat = c := (u8_eq (by omega) (by omega) c).2 (by omega)
            have q2 : UInt8.ofNat (128 + v / 64 % 64).toNat = d := (u8_eq (by omega) (by omega) d).2 (by omega)
            have q3 : UInt8.ofNat (128 + v % 64).toNat = e := (u8_eq (by omega) (by omega) e).2 (by omega)
            have he : toB (putB v) = [c, d, e] := by rw [hp]; simp [toB, q1, q2, q3]
            by_cases hsur : 55296 ≤ v ∧ v < 57344
            · have c1 : c.toNat = 237 := by omega
              have c2 : ¬ d.toNat ≤ 159 := by omega
              rw [sgn_bad hb hct (.inr (.inl hsur))]
              simp [sizeB, tailB, c1, c2]
            · rw [sgn_good hb hct (by unfold badV; rw [hN, he]; simp; omega), hN]
              by_cases c1 : c.toNat = 224
              · have : 160 ≤ d.toNat := by omega
                simp [sizeB, tailB, c1, this, hcd, hce']
              · by_cases c2 : c.toNat = 237
                · have : d.toNat ≤ 159 := by omega
                  simp [sizeB, tailB, c2, this, hcd, hce']
                · have : 225 ≤ c.toNat := by omega
                  simp [sizeB, tailB, h1, e8, e9, c1, c2, this, hcd, hce']
          · have c1 : c.toNat = 224 := by omega
            have c2 : ¬ 160 ≤ d.toNat := by omega
            have hl : (toB (putB v)).length ≤ 2 := by
              unfold putB
              by_cases v1 : v < 128
              · rw [if_pos v1]; simp [toB]
              · rw [if_neg v1, if_pos (by omega)]; simp [toB]
            rw [sgn_bad hb hct (.inr (.inr (by rw [hN]; intro h; rw [h] at hl; simp at hl)))]
            simp [sizeB, tailB, c1, c2]
        · have hce' : contB e = false := by simp [contB]; omega
          rw [sgn_nocont hb (by rw [hN, hC]; simp only [cont, if_pos hcd, if_neg hce])]
          simp [sizeB, tailB, h1, hce', e5, e6, e7, e8]
      · rw [sgn_nocont hb (by rw [hN, hC]; simp only [cont, if_neg hcd])]
        have a1 : ¬ (160 ≤ d.toNat ∧ d.toNat ≤ 191) := by omega
        have a2 : ¬ (128 ≤ d.toNat ∧ d.toNat ≤ 159) := by omega
        simp [sizeB, tailB, h1, hcd, a1, a2, e5, e6, e7]
  by_cases h5 : c.toNat < 248
  · have hN : headN c.toNat = 4 := by unfold headN; rw [if_pos (by omega)]
    have hC : headC c.toNat = (c.toNat : Int) - 240 := by unfold headC; rw [if_pos (by omega)]
    have e2 : ¬ c.toNat = 224 := by omega
    have e4 : ¬ c.toNat = 237 := by omega
    have e8 : ¬ c.toNat ≤ 223 := by omega
    have e9 : ¬ c.toNat ≤ 239 := by omega
    match r with
    | [] =>
      rw [sgn_short (.inr (.inr (by rw [hN]; simp)))]
      simp [sizeB, tailB, h1]
    | [d] =>
      rw [sgn_short (.inr (.inr (by rw [hN]; simp)))]
      simp [sizeB, tailB, h1, e8, e9, e2, e4]
    | [d, e] =>
      rw [sgn_short (.inr (.inr (by rw [hN]; simp)))]
      simp [sizeB, tailB, h1, e8, e9, e2, e4]
    | d :: e :: f :: r =>
      have hd := u8_le d
      have he0 := u8_le e
      have hf0 := u8_le f
      have hb : ¬ (248 ≤ c.toNat ∨ (128 ≤ c.toNat ∧ c.toNat < 192) ∨ (d :: e :: f :: r).length + 1 < headN c.toNat) := by rw [hN]; simp only [List.length_cons]; omega
      by_cases hcd : 128 ≤ d.toNat ∧ d.toNat ≤ 191
      · by_cases hce : 128 ≤ e.toNat ∧ e.toNat ≤ 191
        · have hce' : contB e = true := by simp [contB, hce]
          by_cases hcf : 128 ≤ f.toNat ∧ f.toNat ≤ 191
          · have hcf' : contB f = true := by simp [contB, hcf]
            obtain ⟨v, hv⟩ : ∃ v, v = 64 * (64 * (64 * ((c.toNat : Int) - 240) + (d.toNat : Int) - 128) + (e.toNat : Int) - 128) + (f.toNat : Int) - 128 := ⟨_, rfl⟩
            have hct : cont (headN c.toNat - 1) (headC c.toNat) (d :: e :: f :: r) = some v := by rw [hN, hC, hv]; simp only [cont, if_pos hcd, if_pos hce, if_pos hcf]
            by_cases hlow : 65536 ≤ v
            · have hp : putB v = [240 + v / 262144, 128 + v / 4096 % 64, 128 + v / 64 % 64, 128 + v % 64] := by unfold putB; rw [if_neg (by omega), if_neg (by omega), if_neg (by omega)]
              have q1 : UInt8.ofNat (240 + v / 262144).toNat = c := (u8_eq (by omega) (by omega) c).2 (by omega)
              have q2 : UInt8.ofNat (128 + v / 4096 % 64).toNat = d := (u8_eq (by omega) (by omega) d).2 (by omega)
              have q3 : UInt8.ofNat (128 + v / 64 % 64).toNat = e := (u8_eq (by omega) (by omega) e).2 (by omega)
              have q4 : UInt8.ofNat (128 + v % 64).toNat = f := (u8_eq (by omega) (by omega) f).2 (by omega)
              have he : toB (putB v) = [c, d, e, f] := by rw [hp]; simp [toB, q1, q2, q3, q4]
              by_cases hbig : 1114111 < v
              · rw [sgn_bad hb hct (.inl hbig)]
                have c0 : ¬ c.toNat = 240 := by omega
                by_cases c1 : c.toNat = 244
                · have c2 : ¬ d.toNat ≤ 143 := by omega
                  simp [sizeB, tailB, c1, c2]
                · have c2 : ¬ c.toNat ≤ 243 := by omega
                  simp [sizeB, tailB, h1, e2, e4, e8, e9, c0, c1, c2]
              · rw [sgn_good hb hct (by unfold badV; rw [hN, he]; simp; omega), hN]
                by_cases c1 : c.toNat = 240
                · have : 144 ≤ d.toNat := by omega
                  simp [sizeB, tailB, c1, this, hcd, hce', hcf']
                · by_cases c2 : c.toNat = 244
                  · have : d.toNat ≤ 143 := by omega
                    simp [sizeB, tailB, c2, this, hcd, hce', hcf']
                  · have a1 : 241 ≤ c.toNat := by omega
                    have a2 : c.toNat ≤ 243 := by omega
                    simp [sizeB, tailB, h1, e2, e4, e8, e9, c1, c2, a1, a2, hcd, hce', hcf']
            · have c1 : c.toNat = 240 := by omega
              have c2 : ¬ 144 ≤ d.toNat := by omega
              have hl : (toB (putB v)).length ≤ 3 := by
                unfold putB
                by_cases v1 : v < 128
                · rw [if_pos v1]; simp [toB]
                · by_cases v2 : v < 2048
                  · rw [if_neg v1, if_pos v2]; simp [toB]
                  · rw [if_neg v1, if_neg v2, if_pos (by omega)]; simp [toB]
              rw [sgn_bad hb hct (.inr (.inr (by rw [hN]; intro h; rw [h] at hl; simp at hl)))]
              simp [sizeB, tailB, c1, c2]
          · have hcf' : contB f = false := by simp [contB]; omega
            rw [sgn_nocont hb (by rw [hN, hC]; simp only [cont, if_pos hcd, if_pos hce, if_neg hcf])]
            simp [sizeB, tailB, h1, hcf', e2, e4, e8, e9]
        · have hce' : contB e = false := by simp [contB]; omega
          rw [sgn_nocont hb (by rw [hN, hC]; simp only [cont, if_pos hcd, if_neg hce])]
          simp [sizeB, tailB, h1, hce', e2, e4, e8, e9]
      · rw [sgn_nocont hb (by rw [hN, hC]; simp only [cont, if_neg hcd])]
        have a1 : ¬ (144 ≤ d.toNat ∧ d.toNat ≤ 191) := by omega
        have a2 : ¬ (128 ≤ d.toNat ∧ d.toNat ≤ 143) := by omega
        simp [sizeB, tailB, h1, hcd, a1, a2, e2, e4, e8, e9]
  · rw [sgn_short (.inl (by omega))]
    have e1 : ¬ c.toNat ≤ 223 := by omega
    have e2 : ¬ c.toNat = 224 := by omega
    have e3 : ¬ c.toNat ≤ 239 := by omega
    have e4 : ¬ c.toNat = 237 := by omega
    have e5 : ¬ c.toNat = 240 := by omega
    have e6 : ¬ c.toNat ≤ 243 := by omega
    have e7 : ¬ c.toNat = 244 := by omega
    simp [sizeB, h1, e1, e2, e3, e4, e5, e6, e7]
end Go.Ab
end
section
namespace Go.Ab
section
variable (s : ByteArray) (hs : s.size ≤ 1152921504606846976)
include hs
theorem tail_loop (K n : Nat) (hn : n < s.data.toList.length) : ∀ (m f i : Nat), m < f → n + 1 ≤ i + m → 2 ≤ i →
    onL (L_utf_tail_1_0 Rt0 K true f s n i) (K_utf_tail_1 Rt0 K true) = some ([.fz (.bool (((s.data.toList.drop i).take (n + 1 - i)).all contB))], []) := by
  have hbs := bytes_size s
  intro m
  induction m with
  | zero =>
    intro f i hf hi h2
    obtain ⟨f, rfl⟩ : ∃ m, f = m + 1 := ⟨f - 1, by omega⟩
    have e1 : decide ((i : Int) ≤ (n : Int)) = false := by simp; omega
    rw [L_utf_tail_1_0_eq, show n + 1 - i = 0 by omega]
    simp only [e1, ifB_false, onL_some, X_utf_tail_1_1_eq, List.take_zero, List.all_nil]
  | succ m ih =>
    intro f i hf hi h2
    obtain ⟨f, rfl⟩ : ∃ m, f = m + 1 := ⟨f - 1, by omega⟩
    by_cases hl : i ≤ n
    case neg =>
      have e1 : decide ((i : Int) ≤ (n : Int)) = false := by simp; omega
      rw [L_utf_tail_1_0_eq, show n + 1 - i = 0 by omega]
      simp only [e1, ifB_false, onL_some, X_utf_tail_1_1_eq, List.take_zero, List.all_nil]
    case pos =>
      have hi' : i < s.data.toList.length := by omega
      have e1 : decide ((i : Int) ≤ (n : Int)) = true := by simp; omega
      have e2 : decide ((0 : Int) ≤ (i : Int)) = true := by simp
      have e3 : decide ((i : Int) < (s.size : Int)) = true := by simp; omega
      have hw : IntKind.wrap .i64 ((i : Int) + 1) = ((i + 1 : Nat) : Int) := by rw [wrap64 (by omega) (by omega)]; omega
      have h := ih f (i + 1) (by omega) (by omega) (by omega)
      rw [L_utf_tail_1_0_eq, drop_cons hi', show n + 1 - i = (n + 1 - (i + 1)) + 1 by omega, List.take_succ_cons, List.all_cons]
      simp only [e1, e2, e3, ifB_true, Bool.and_true, when_true', Int.toNat_natCast, byteAt hi']
      generalize s.data.toList[i] = d
      by_cases h1 : d.toNat < 128
      · have a1 : decide ((d.toNat : Int) < 128) = true := by simp; omega
        have a2 : contB d = false := by simp [contB]; omega
        simp only [a1, a2, ifB_true, onL_some, X_utf_tail_1_0_eq, Bool.false_and]
      · have a1 : decide ((d.toNat : Int) < 128) = false := by simp; omega
        by_cases h3 : d.toNat ≤ 191
        · have a2 : decide ((d.toNat : Int) > 191) = false := by simp; omega
          have a3 : contB d = true := by simp [contB]; omega
          simp only [a1, a2, a3, ifB_false, hw, Bool.true_and]
          exact h
        · have a2 : decide ((d.toNat : Int) > 191) = true := by simp; omega
          have a3 : contB d = false := by simp [contB]; omega
          simp only [a1, a2, a3, ifB_false, ifB_true, onL_some, X_utf_tail_1_0_eq, Bool.false_and]
theorem tail_ok (n lo hi : Nat) (h1 : 1 ≤ n) (hn : n ≤ 1000) : Rt0 N_utf_tail [.fz (.str s), .fz (.int .i64 n), .fz (.int .u8 lo), .fz (.int .u8 hi)] = some ([.fz (.bool (tailB s.data.toList n lo hi))], []) := by
  have hbs := bytes_size s
  refine rt_call0 A_utf_tail rfl rfl (n + 2) ?_
  rw [E_utf_tail]
  by_cases hsz : s.size ≤ n
  · have e1 : decide ((s.size : Int) ≤ (n : Int)) = true := by simp; omega
    have ht : tailB s.data.toList n lo hi = false := by
      match hq : s.data.toList with
      | [] => rfl
      | [_] => rfl
      | a :: b :: r =>
        rw [hq] at hbs
        simp only [List.length_cons] at hbs
        simp only [tailB]
        have : decide (n ≤ r.length + 1) = false := by simp; omega
        rw [this]
        simp
    simp only [e1, ht, ifB_true]
  · have e1 : decide ((s.size : Int) ≤ (n : Int)) = false := by simp; omega
    have e2 : decide (1 < (s.size : Int)) = true := by simp; omega
    have hl : 1 < s.data.toList.length := by omega
    have hlo := tail_loop s hs (n + 2) n (by omega) n (n + 2) 2 (by omega) (by omega) (by omega)
    have hb := byteAt hl
    have hd : s.data.toList = s.data.toList[0] :: s.data.toList[1] :: s.data.toList.drop 2 := by
      have a1 := drop_cons (show 0 < s.data.toList.length by omega)
      have a2 := drop_cons hl
      rw [List.drop_zero] at a1
      rw [← a2]; exact a1
    have ht : tailB s.data.toList n lo hi = (decide (lo ≤ s.data.toList[1].toNat ∧ s.data.toList[1].toNat ≤ hi) && ((s.data.toList.drop 2).take (n + 1 - 2)).all contB) := by
      have hlen : (s.data.toList.drop 2).length + 2 = s.size := by rw [List.length_drop]; omega
      have e3 : decide (n ≤ (s.data.toList.drop 2).length + 1) = true := by simp only [decide_eq_true_eq]; omega
      have : ∀ l : List UInt8, l = s.data.toList[0] :: s.data.toList[1] :: s.data.toList.drop 2 → tailB l n lo hi = (decide (lo ≤ s.data.toList[1].toNat ∧ s.data.toList[1].toNat ≤ hi) && ((s.data.toList.drop 2).take (n + 1 - 2)).all contB) := fun l hl' => by
        rw [hl']
        simp only [tailB, e3, Bool.true_and, show n + 1 - 2 = n - 1 by omega]
      exact this _ hd
    rw [ht]
    simp only [e1, e2, ifB_false, when_true', hb, jump_true, J_utf_tail_2_0_eq]
    rw [show ((2 : Nat) : Int) = 2 from rfl] at hlo
    rw [hlo]
    generalize s.data.toList[1] = d
    by_cases h1 : lo ≤ d.toNat
    · have a1 : decide ((d.toNat : Int) < (lo : Int)) = false := by simp; omega
      by_cases h3 : d.toNat ≤ hi
      · have a2 : decide ((d.toNat : Int) > (hi : Int)) = false := by simp; omega
        simp only [a1, a2, ifB_false, decide_eq_true (show lo ≤ d.toNat ∧ d.toNat ≤ hi from ⟨h1, h3⟩), Bool.true_and]
      · have a2 : decide ((d.toNat : Int) > (hi : Int)) = true := by simp; omega
        simp only [a1, a2, ifB_false, ifB_true, decide_eq_false (show ¬ (lo ≤ d.toNat ∧ d.toNat ≤ hi) by omega), Bool.false_and]
    · have a1 : decide ((d.toNat : Int) < (lo : Int)) = true := by simp; omega
      simp only [a1, ifB_true, decide_eq_false (show ¬ (lo ≤ d.toNat ∧ d.toNat ≤ hi) by omega), Bool.false_and]
theorem size_ok (hne : 0 < s.data.toList.length) : Rt0 N_utf_size [.fz (.str s)] = some ([.fz (.int .i64 (sizeB s.data.toList : Int))], []) := by
  have hbs := bytes_size s
  refine rt_call0 A_utf_size rfl rfl 0 ?_
  rw [E_utf_size]
  have e0 : decide (0 < (s.size : Int)) = true := by simp; omega
  have T1 := tail_ok s hs 1 128 191 (by omega) (by omega)
  rw [show ((1 : Nat) : Int) = 1 from rfl, show ((128 : Nat) : Int) = 128 from rfl, show ((191 : Nat) : Int) = 191 from rfl] at T1
  have T2 := tail_ok s hs 2 160 191 (by omega) (by omega)
  rw [show ((2 : Nat) : Int) = 2 from rfl, show ((160 : Nat) : Int) = 160 from rfl, show ((191 : Nat) : Int) = 191 from rfl] at T2
  have T3 := tail_ok s hs 2 128 191 (by omega) (by omega)
  rw [show ((2 : Nat) : Int) = 2 from rfl, show ((128 : Nat) : Int) = 128 from rfl, show ((191 : Nat) : Int) = 191 from rfl] at T3
  have T4 := tail_ok s hs 2 128 159 (by omega) (by omega)
  rw [show ((2 : Nat) : Int) = 2 from rfl, show ((128 : Nat) : Int) = 128 from rfl, show ((159 : Nat) : Int) = 159 from rfl] at T4
  have T5 := tail_ok s hs 3 144 191 (by omega) (by omega)
  rw [show ((3 : Nat) : Int) = 3 from rfl, show ((144 : Nat) : Int) = 144 from rfl, show ((191 : Nat) : Int) = 191 from rfl] at T5
  have T6 := tail_ok s hs 3 128 191 (by omega) (by omega)
  rw [show ((3 : Nat) : Int) = 3 from rfl, show ((128 : Nat) : Int) = 128 from rfl, show ((191 : Nat) : Int) = 191 from rfl] at T6
  have T7 := tail_ok s hs 3 128 143 (by omega) (by omega)
  rw [show ((3 : Nat) : Int) = 3 from rfl, show ((128 : Nat) : Int) = 128 from rfl, show ((143 : Nat) : Int) = 143 from rfl] at T7
  have hd : s.data.toList = s.data.toList[0] :: s.data.toList.drop 1 := by
    have a1 := drop_cons hne
    rwa [List.drop_zero] at a1
  have hsz : sizeB s.data.toList = (if s.data.toList[0].toNat < 128 then 1
    else if decide (194 ≤ s.data.toList[0].toNat) && (decide (s.data.toList[0].toNat ≤ 223) && tailB s.data.toList 1 128 191) then 2
    else if (decide (s.data.toList[0].toNat = 224) && tailB s.data.toList 2 160 191) || ((decide (225 ≤ s.data.toList[0].toNat) && (decide (s.data.toList[0].toNat ≤ 239) && (!decide (s.data.toList[0].toNat = 237) && tailB s.data.toList 2 128 191))) || (decide (s.data.toList[0].toNat = 237) && tailB s.data.toList 2 128 159)) then 3
    else if (decide (s.data.toList[0].toNat = 240) && tailB s.data.toList 3 144 191) || ((decide (241 ≤ s.data.toList[0].toNat) && (decide (s.data.toList[0].toNat ≤ 243) && tailB s.data.toList 3 128 191)) || (decide (s.data.toList[0].toNat = 244) && tailB s.data.toList 3 128 143)) then 4
    else 0) := by
    generalize hg : s.data.toList[0] = c at *
    generalize s.data.toList.drop 1 = r at hd
    rw [hd]
    simp only [sizeB]
  rw [hsz]
  simp only [e0, when_true', byteAt hne]
  generalize tailB s.data.toList 1 128 191 = t1 at *
  generalize tailB s.data.toList 2 160 191 = t2 at *
  generalize tailB s.data.toList 2 128 191 = t3 at *
  generalize tailB s.data.toList 2 128 159 = t4 at *
  generalize tailB s.data.toList 3 144 191 = t5 at *
  generalize tailB s.data.toList 3 128 191 = t6 at *
  generalize tailB s.data.toList 3 128 143 = t7 at *
  generalize s.data.toList[0] = c
  have d0 : decide ((c.toNat : Int) < 128) = decide (c.toNat < 128) := decide_eq_decide.2 (by omega)
  have d1 : decide ((c.toNat : Int) ≥ 194) = decide (194 ≤ c.toNat) := decide_eq_decide.2 (by omega)
  have d2 : decide ((c.toNat : Int) ≤ 223) = decide (c.toNat ≤ 223) := decide_eq_decide.2 (by omega)
  have d3 : ((c.toNat : Int) == 224) = decide (c.toNat = 224) := by rw [Bool.eq_iff_iff]; simp; omega
  have d4 : decide ((c.toNat : Int) ≥ 225) = decide (225 ≤ c.toNat) := decide_eq_decide.2 (by omega)
  have d5 : decide ((c.toNat : Int) ≤ 239) = decide (c.toNat ≤ 239) := decide_eq_decide.2 (by omega)
  have d6 : ((c.toNat : Int) != 237) = !decide (c.toNat = 237) := by rw [Bool.eq_iff_iff]; simp; omega
  have d7 : ((c.toNat : Int) == 237) = decide (c.toNat = 237) := by rw [Bool.eq_iff_iff]; simp; omega
  have d8 : ((c.toNat : Int) == 240) = decide (c.toNat = 240) := by rw [Bool.eq_iff_iff]; simp; omega
  have d9 : decide ((c.toNat : Int) ≥ 241) = decide (241 ≤ c.toNat) := decide_eq_decide.2 (by omega)
  have d10 : decide ((c.toNat : Int) ≤ 243) = decide (c.toNat ≤ 243) := decide_eq_decide.2 (by omega)
  have d11 : ((c.toNat : Int) == 244) = decide (c.toNat = 244) := by rw [Bool.eq_iff_iff]; simp; omega
  generalize decide (c.toNat = 237) = q7 at d6 d7 ⊢
  generalize decide (c.toNat = 244) = q4 at d11 ⊢
  have J3 : ∀ x : Bool, J_utf_size_3_0 Rt0 0 true s c.toNat x = some ([.fz (.int .i64 (if x || (q4 && t7) then 4 else 0))], []) := fun x => by
    rw [J_utf_size_3_0_eq, d11]
    cases x with
    | true => simp
    | false => cases q4 <;> cases t7 <;> simp [T7, onR_some]
  have J4 : ∀ x : Bool, J_utf_size_4_0 Rt0 0 true s c.toNat x = some ([.fz (.int .i64 (if x || ((decide (241 ≤ c.toNat) && (decide (c.toNat ≤ 243) && t6)) || (q4 && t7)) then 4 else 0))], []) := fun x => by
    rw [J_utf_size_4_0_eq, d9, d10]
    cases x with
    | true => simp
    | false => cases decide (241 ≤ c.toNat) <;> cases decide (c.toNat ≤ 243) <;> cases t6 <;> simp [T6, onR_some, J3]
  have J6 : ∀ x : Bool, J_utf_size_6_0 Rt0 0 true s c.toNat x = some ([.fz (.int .i64 (if x then 3 else if (decide (c.toNat = 240) && t5) || ((decide (241 ≤ c.toNat) && (decide (c.toNat ≤ 243) && t6)) || (q4 && t7)) then 4 else 0))], []) := fun x => by
    rw [J_utf_size_6_0_eq, d8]
    cases x with
    | true => simp
    | false => cases decide (c.toNat = 240) <;> cases t5 <;> simp [T5, onR_some, J4]
  have J1 : ∀ x : Bool, J_utf_size_1_0 Rt0 0 true s c.toNat x = J_utf_size_6_0 Rt0 0 true s c.toNat (x || (q7 && t4)) := fun x => by
    rw [J_utf_size_1_0_eq, d7]
    cases x with
    | true => simp
    | false => cases q7 <;> simp [T4, onR_some]
  have J2 : ∀ x : Bool, J_utf_size_2_0 Rt0 0 true s c.toNat x = J_utf_size_6_0 Rt0 0 true s c.toNat (x || ((decide (225 ≤ c.toNat) && (decide (c.toNat ≤ 239) && (!q7 && t3))) || (q7 && t4))) := fun x => by
    rw [J_utf_size_2_0_eq, d4, d5, d6]
    cases x with
    | true => simp
    | false => cases decide (225 ≤ c.toNat) <;> cases decide (c.toNat ≤ 239) <;> cases q7 <;> simp [T3, onR_some, J1]
  have J8 : ∀ x : Bool, J_utf_size_8_0 Rt0 0 true s c.toNat x = (if x then some ([.fz (.int .i64 2)], []) else J_utf_size_6_0 Rt0 0 true s c.toNat ((decide (c.toNat = 224) && t2) || ((decide (225 ≤ c.toNat) && (decide (c.toNat ≤ 239) && (!q7 && t3))) || (q7 && t4)))) := fun x => by
    rw [J_utf_size_8_0_eq, d3]
    cases x with
    | true => simp
    | false => cases decide (c.toNat = 224) <;> simp [T2, onR_some, J2]
  rw [d0, d1, d2]
  by_cases h0 : c.toNat < 128
  · simp [h0]
  · simp only [decide_eq_false h0, if_neg h0, ifB_false]
    have R8 : ∀ x : Bool, J_utf_size_8_0 Rt0 0 true s c.toNat x = some ([.fz (.int .i64 ((if x then 2 else if (decide (c.toNat = 224) && t2) || ((decide (225 ≤ c.toNat) && (decide (c.toNat ≤ 239) && (!q7 && t3))) || (q7 && t4)) then 3 else if (decide (c.toNat = 240) && t5) || ((decide (241 ≤ c.toNat) && (decide (c.toNat ≤ 243) && t6)) || (q4 && t7)) then 4 else 0 : Nat) : Int))], []) := fun x => by
      rw [J8, J6]
      cases x with
      | true => simp only [if_true]; exact Eq.refl _
      | false =>
        simp only [Bool.false_eq_true, if_false]
        generalize ((decide (c.toNat = 224) && t2) || ((decide (225 ≤ c.toNat) && (decide (c.toNat ≤ 239) && (!q7 && t3))) || (q7 && t4))) = u1
        generalize ((decide (c.toNat = 240) && t5) || ((decide (241 ≤ c.toNat) && (decide (c.toNat ≤ 243) && t6)) || (q4 && t7))) = u2
        cases u1 <;> cases u2 <;> exact Eq.refl _
    cases decide (194 ≤ c.toNat) <;> cases decide (c.toNat ≤ 223) <;> simp only [ifB_true, ifB_false, jump_true, R8, Bool.false_and, Bool.true_and, Bool.and_false] <;> try exact Eq.refl _
    rw [T1]
    simp only [onR_some, List.isEmpty_nil, allF_cons, allF_nil, Bool.and_true, when_true', List.getD_cons_zero, toF_fz, isBool_bool, toBool_bool, jump_true, R8]
end
theorem valid_ok (s : ByteArray) (hs : s.size ≤ 1152921504606846976) : Rt0 N_utf_Valid [.fz (.str s)] = some ([.fz (.bool (signsL s.data.toList).isSome)], []) := by
  have loop : ∀ (n : Nat) (K f : Nat) (s : ByteArray), s.size ≤ 1152921504606846976 → n < f → s.data.toList.length ≤ n → onL (L_utf_Valid_1_0 Rt0 K true f s) (K_utf_Valid_1 Rt0 K true) = some ([.fz (.bool (signsN n s.data.toList).isSome)], []) := by
    intro n
    induction n with
    | zero =>
      intro K f s hs hf hl
      obtain ⟨f, rfl⟩ : ∃ m, f = m + 1 := ⟨f - 1, by omega⟩
      have h0 : s.data.toList = [] := List.length_eq_zero_iff.1 (by omega)
      have e1 : (s.toList == (⟨#[]⟩ : ByteArray).toList) = true := by rw [ByteArray.toList_eq, ByteArray.toList_eq, h0]; rfl
      rw [L_utf_Valid_1_0_eq, h0]
      simp only [e1, Bool.not_true, ifB_false, onL_some, X_utf_Valid_1_1_eq, signsN, Option.isSome]
    | succ n ih =>
      intro K f s hs hf hl
      obtain ⟨f, rfl⟩ : ∃ m, f = m + 1 := ⟨f - 1, by omega⟩
      have hbs := bytes_size s
      by_cases h0 : s.data.toList = []
      · have e1 : (s.toList == (⟨#[]⟩ : ByteArray).toList) = true := by rw [ByteArray.toList_eq, ByteArray.toList_eq, h0]; rfl
        rw [L_utf_Valid_1_0_eq, h0]
        simp only [e1, Bool.not_true, ifB_false, onL_some, X_utf_Valid_1_1_eq, signsN, Option.isSome]
      · have hne : 0 < s.data.toList.length := List.length_pos_iff.2 h0
        have e1 : (s.toList == (⟨#[]⟩ : ByteArray).toList) = false := by rw [ByteArray.toList_eq, ByteArray.toList_eq]; simpa using h0
        obtain ⟨c, r, hcr⟩ : ∃ c r, s.data.toList = c :: r := by
          cases hq : s.data.toList with
          | nil => exact absurd hq h0
          | cons c r => exact ⟨c, r, rfl⟩
        have hsz := size_ok s hs hne
        rw [L_utf_Valid_1_0_eq]
        have hk := size_sgn c r
        rw [← hcr] at hk
        rw [hcr]
        simp only [signsN]
        rw [← hcr]
        cases hg : sgn s.data.toList with
        | none =>
          rw [hg] at hk
          rw [hk] at hsz
          simp only [e1, Bool.not_false, ifB_true, hsz, onR_some, List.isEmpty_nil, allF_cons, allF_nil, Bool.and_true, when_true', List.getD_cons_zero, toF_fz, isInt_int, toInt_int, show (((0 : Nat) : Int) == 0) = true from rfl, onL_some, X_utf_Valid_1_0_eq, Option.isSome]
        | some p =>
          obtain ⟨v, k⟩ := p
          obtain ⟨k1, k2, _, _⟩ := sgn_pos hg
          rw [hg] at hk
          simp only [] at hk
          rw [hk] at hsz
          have a1 : ((k : Int) == 0) = false := by simp; omega
          have a2 : decide ((0 : Int) ≤ (s.size : Int)) = true := by simp
          have a3 : decide ((s.size : Int) ≤ (s.size : Int)) = true := by simp
          have a4 : decide ((0 : Int) ≤ (k : Int)) = true := by simp
          have a5 : decide ((k : Int) ≤ (s.size : Int)) = true := by simp; omega
          have hex : (ByteArray.extract s k s.size).data.toList = s.data.toList.drop k := by
            have := extract_list s k s.size
            rw [ByteArray.toList_eq] at this
            rw [this, ← hbs, List.take_length]
          have h2 := ih K f (ByteArray.extract s k s.size) (by have := bytes_size (ByteArray.extract s k s.size); rw [hex, List.length_drop] at this; omega) (by omega) (by rw [hex, List.length_drop]; omega)
          rw [hex] at h2
          simp only [e1, Bool.not_false, ifB_true, hsz, onR_some, List.isEmpty_nil, allF_cons, allF_nil, Bool.and_true, when_true', List.getD_cons_zero, toF_fz, isInt_int, toInt_int, a1, a2, a3, a4, a5, ifB_false, Int.toNat_natCast, h2]
          cases signsN n (s.data.toList.drop k) <;> rfl
  refine rt_call0 A_utf_Valid rfl rfl (s.data.toList.length + 1) ?_
  rw [E_utf_Valid]
  exact loop s.data.toList.length _ _ s hs (by omega) (Nat.le_refl _)
end Go.Ab
end
