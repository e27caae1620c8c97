/- The row ShowAlike, part 4 of 6: texts written for this work, merged by a program of the session. No condition. -/
import Derived.Test.YtkolniefdijlhaaProg
import Derived.Shelf.Strings.BuilderK
import Derived.WalkKit
import Derived.BigCall
import Derived.Shelf.Strings.Repeat
import Derived.Lib.DecodeN
import Derived.Shelf.Strings.Builder1
import Derived.Shelf.Strings.BuilderF
import Derived.Lib.RuneCount
import Derived.Lib.QuoteLoop
import Derived.BigQuiet
import Derived.Handy
import Derived.StillTailTactics
import Derived.Deep.RegionWith
import Derived.Test.YtkolniefdijlhaaMShowAlike3
set_option linter.unusedVariables false
set_option linter.unusedSimpArgs false
set_option linter.unusedSectionVars false
section
namespace Go.Ab
open Go.Proofs FV TV
set_option maxRecDepth 100000
noncomputable section
def C_ref04_Of : ACode := codeOf 61 Try.f61
def A_ref04_Of_j1 : ACode := C_ref04_Of.at [1, 1, 1, 0, 0, 0, 1, 0, 1, 1, 0]
def A_ref04_Of_b1 : ACode := C_ref04_Of.at [1, 1, 1, 0, 0, 0]
def A_ref04_Of_s2 : ACode := C_ref04_Of.at [1, 1, 1, 1]
def A_ref04_Of : AFunc := ⟨1, [(.cell 2 2 true, .fz)], C_ref04_Of, none⟩
def K_ref04_Of_1 (R : Orc) (k : Nat) (w : Bool) : AExit → St → Option Ans := (kBlk 0 (kSeq R k w [] A_ref04_Of_s2 (kFin R [(.cell 2 2 true, .fz)] [])))
def L_ref04_Of_1_0 (R : Orc) (k : Nat) (w : Bool) (n : Nat) (a : Int) (b c : Bool) := loopL R k w [] [0, 2, 3] [2, 3] A_ref04_Of_b1 n ⟨[(0, .fz (.int .i64 a)), (2, .ptr 4096 0 0), (3, .ptr 4097 0 0)], [(4095, .dead), (4096, .var 2 true (.ag [.fz (.bool b), .nils])), (4097, .var 2 true (.ag [.fz (.bool c), .nils]))]⟩
def J_ref04_Of_1_0 (R : Orc) (k : Nat) (w : Bool) (n : Nat) (a b : Int) (c d : Bool) := execL R k w [] A_ref04_Of_j1 (AExit × St) ⟨[(0, .fz (.int .i64 a)), (2, .ptr 4096 0 0), (3, .ptr 4097 0 0), (4, .fz (.int .i64 b))], [(4095, .dead), (4096, .var 2 true (.ag [.fz (.bool c), .nils])), (4097, .var 2 true (.ag [.fz (.bool d), .nils]))]⟩ (kBlk 1 (kLoop R k w [] [0, 2, 3] [2, 3] A_ref04_Of_b1 n))
def X_ref04_Of_1_0 (a b : Bool) : St := ⟨[(2, .ptr 4096 0 0), (3, .ptr 4097 0 0)], [(4095, .dead), (4096, .var 2 true (.ag [.fz (.bool a), .nils])), (4097, .var 2 true (.ag [.fz (.bool b), .nils]))]⟩
def L_ref04_Of_1_1 (R : Orc) (k : Nat) (w : Bool) (n : Nat) (a : Int) (b c : Bool) (d : List FV) := loopL R k w [] [0, 2, 3] [2, 3] A_ref04_Of_b1 n ⟨[(0, .fz (.int .i64 a)), (2, .ptr 4096 0 0), (3, .ptr 4097 0 0)], [(4095, .dead), (4096, .var 2 true (.ag [.fz (.bool b), .nils])), (4097, .var 2 true (.ag [.fz (.bool c), .rw 4098])), (4098, .row 1 false d)]⟩
def J_ref04_Of_1_1 (R : Orc) (k : Nat) (w : Bool) (n : Nat) (a b : Int) (c d : Bool) (e : List FV) := execL R k w [] A_ref04_Of_j1 (AExit × St) ⟨[(0, .fz (.int .i64 a)), (2, .ptr 4096 0 0), (3, .ptr 4097 0 0), (4, .fz (.int .i64 b))], [(4095, .dead), (4096, .var 2 true (.ag [.fz (.bool c), .nils])), (4097, .var 2 true (.ag [.fz (.bool d), .rw 4098])), (4098, .row 1 false e)]⟩ (kBlk 1 (kLoop R k w [] [0, 2, 3] [2, 3] A_ref04_Of_b1 n))
def X_ref04_Of_1_1 (a b : Bool) (c : List FV) : St := ⟨[(2, .ptr 4096 0 0), (3, .ptr 4097 0 0)], [(4095, .dead), (4096, .var 2 true (.ag [.fz (.bool a), .nils])), (4097, .var 2 true (.ag [.fz (.bool b), .rw 4098])), (4098, .row 1 false c)]⟩
theorem E_ref04_Of (R : Orc) (k : Nat) (w : Bool) (a : Int) : callL R k w A_ref04_Of [.fz (.int .i64 a)] = onL (L_ref04_Of_1_0 R k w k a false (decide (a < 0))) (K_ref04_Of_1 R k w) := by kernel_rfl
theorem L_ref04_Of_1_0_eq (R : Orc) (k : Nat) (w : Bool) (n : Nat) (a : Int) (b c : Bool) : L_ref04_Of_1_0 R k w (n + 1) a b c = ifB (a != 0)
 (ifB (decide ((Int.tmod a 10) < 0))
 (jump w (J_ref04_Of_1_0 R k w n a (IntKind.wrap .i64 (0 - (Int.tmod a 10))) b c))
 (jump w (J_ref04_Of_1_0 R k w n a (Int.tmod a 10) b c)))
 (some ((.exit 0), X_ref04_Of_1_0 b c)) := by kernel_rfl
theorem J_ref04_Of_1_0_eq (R : Orc) (k : Nat) (w : Bool) (n : Nat) (a b : Int) (c d : Bool) : J_ref04_Of_1_0 R k w n a b c d = when (decide (((0 : Nat) + List.length [FV.int .i64 b]) * 8 ≤ roomy) && decide ((0 : Nat) + List.length [FV.int .i64 b] ≤ roomy)) (L_ref04_Of_1_1 R k w n (IntKind.wrap .i64 (Int.tdiv a 10)) c d [.int .i64 b]) := by kernel_rfl
theorem X_ref04_Of_1_0_eq (R : Orc) (k : Nat) (w a b : Bool) : K_ref04_Of_1 R k w (.exit 0) (X_ref04_Of_1_0 a b) = some ([.fz (.ag [.bool b, .sl []])], []) := by kernel_rfl
theorem L_ref04_Of_1_1_eq (R : Orc) (k : Nat) (w : Bool) (n : Nat) (a : Int) (b c : Bool) (d : List FV) : L_ref04_Of_1_1 R k w (n + 1) a b c d = ifB (a != 0)
 (ifB (decide ((Int.tmod a 10) < 0))
 (jump w (J_ref04_Of_1_1 R k w n a (IntKind.wrap .i64 (0 - (Int.tmod a 10))) b c d))
 (jump w (J_ref04_Of_1_1 R k w n a (Int.tmod a 10) b c d)))
 (some ((.exit 0), X_ref04_Of_1_1 b c d)) := by kernel_rfl
theorem J_ref04_Of_1_1_eq (R : Orc) (k : Nat) (w : Bool) (n : Nat) (a b : Int) (c d : Bool) (e : List FV) : J_ref04_Of_1_1 R k w n a b c d e = when (decide ((List.length e + List.length [FV.int .i64 b]) * 8 ≤ roomy) && decide (List.length e + List.length [FV.int .i64 b] ≤ roomy)) (L_ref04_Of_1_1 R k w n (IntKind.wrap .i64 (Int.tdiv a 10)) c d (e ++ [FV.int .i64 b])) := by kernel_rfl
theorem X_ref04_Of_1_1_eq (R : Orc) (k : Nat) (w a b : Bool) (c : List FV) : K_ref04_Of_1 R k w (.exit 0) (X_ref04_Of_1_1 a b c) = some ([.fz (.ag [.bool b, .sl c])], []) := by kernel_rfl
def C_ref03_Quote : ACode := codeOf 62 Try.f62
def A_ref03_Quote_j1 : ACode := C_ref03_Quote.at [1, 1, 1, 0, 1, 0, 0, 1, 0, 0, 1, 1, 1, 0]
def A_ref03_Quote_s2 : ACode := C_ref03_Quote.at [1, 1, 1, 0, 1, 0, 0, 1, 1]
def A_ref03_Quote_b1 : ACode := C_ref03_Quote.at [1, 1, 1, 0, 1, 0, 0]
def A_ref03_Quote_s3 : ACode := C_ref03_Quote.at [1, 1, 1, 1]
def A_ref03_Quote : AFunc := ⟨1, [(.tmp 2, .fz)], C_ref03_Quote, none⟩
def K_ref03_Quote_1 (R : Orc) (k : Nat) (w : Bool) : AExit → St → Option Ans := (kBlk 0 (kSeq R k w [] A_ref03_Quote_s3 (kFin R [(.tmp 2, .fz)] [])))
def L_ref03_Quote_1_0 (R : Orc) (k : Nat) (w : Bool) (n : Nat) (a : List FV) (b : ByteArray) (c : Int) (d : List FV) := loopL R k w [] [0, 3, 4, 5] [4] A_ref03_Quote_b1 n ⟨[(0, .fz (.sl a)), (3, .fz (.str b)), (4, .rw 4096), (5, .fz (.int .i64 c))], [(4095, .dead), (4096, .row 1 false d)]⟩
def J_ref03_Quote_1_0 (R : Orc) (k : Nat) (w : Bool) (n : Nat) (a : List FV) (b : ByteArray) (c d : Int) (e : ByteArray) (f : List FV) := execL R k w [] A_ref03_Quote_j1 (AExit × St) ⟨[(0, .fz (.sl a)), (3, .fz (.str b)), (4, .rw 4096), (5, .fz (.int .i64 c)), (6, .fz (.int .i64 d)), (7, .fz (.str e))], [(4095, .dead), (4096, .row 1 false f)]⟩ (kBlk 1 (kSeq R k w [] A_ref03_Quote_s2 (kLoop R k w [] [0, 3, 4, 5] [4] A_ref03_Quote_b1 n)))
def X_ref03_Quote_1_0 (a : List FV) : St := ⟨[(4, .rw 4096)], [(4095, .dead), (4096, .row 1 false a)]⟩
theorem E_ref03_Quote (R : Orc) (k : Nat) (w : Bool) (a : List FV) : callL R k w A_ref03_Quote [.fz (.sl a)] = onL (L_ref03_Quote_1_0 R k w k a (⟨#[48, 49, 50, 51, 52, 53, 54, 55, 56, 57, 97, 98, 99, 100, 101, 102]⟩ : ByteArray) 0 [.int .u8 34]) (K_ref03_Quote_1 R k w) := by kernel_rfl
theorem L_ref03_Quote_1_0_eq (R : Orc) (k : Nat) (w : Bool) (n : Nat) (a : List FV) (b : ByteArray) (c : Int) (d : List FV) : L_ref03_Quote_1_0 R k w (n + 1) a b c d = ifB (decide (c < (List.length a : Int)))
 (when ((decide (0 ≤ c)) && (decide (c < (List.length a : Int)))) (when (fits 1 false (List.getD a (Int.toNat c) nilp)) (when (isInt .i64 (List.getD a (Int.toNat c) nilp)) (ifB ((toInt (List.getD a (Int.toNat c) nilp)) == 34)
 (jump w (J_ref03_Quote_1_0 R k w n a b c (toInt (List.getD a (Int.toNat c) nilp)) (⟨#[92, 34]⟩ : ByteArray) d))
 (ifB ((toInt (List.getD a (Int.toNat c) nilp)) == 92)
 (jump w (J_ref03_Quote_1_0 R k w n a b c (toInt (List.getD a (Int.toNat c) nilp)) (⟨#[92, 92]⟩ : ByteArray) d))
 (ifB ((toInt (List.getD a (Int.toNat c) nilp)) == 8)
 (jump w (J_ref03_Quote_1_0 R k w n a b c (toInt (List.getD a (Int.toNat c) nilp)) (⟨#[92, 98]⟩ : ByteArray) d))
 (ifB ((toInt (List.getD a (Int.toNat c) nilp)) == 9)
 (jump w (J_ref03_Quote_1_0 R k w n a b c (toInt (List.getD a (Int.toNat c) nilp)) (⟨#[92, 116]⟩ : ByteArray) d))
 (ifB ((toInt (List.getD a (Int.toNat c) nilp)) == 10)
 (jump w (J_ref03_Quote_1_0 R k w n a b c (toInt (List.getD a (Int.toNat c) nilp)) (⟨#[92, 110]⟩ : ByteArray) d))
 (ifB ((toInt (List.getD a (Int.toNat c) nilp)) == 12)
 (jump w (J_ref03_Quote_1_0 R k w n a b c (toInt (List.getD a (Int.toNat c) nilp)) (⟨#[92, 102]⟩ : ByteArray) d))
 (ifB ((toInt (List.getD a (Int.toNat c) nilp)) == 13)
 (jump w (J_ref03_Quote_1_0 R k w n a b c (toInt (List.getD a (Int.toNat c) nilp)) (⟨#[92, 114]⟩ : ByteArray) d))
 (jump w (J_ref03_Quote_1_0 R k w n a b c (toInt (List.getD a (Int.toNat c) nilp)) (⟨#[]⟩ : ByteArray) d))))))))))))
 (some ((.exit 0), X_ref03_Quote_1_0 d)) := by kernel_rfl
theorem J_ref03_Quote_1_0_eq (R : Orc) (k : Nat) (w : Bool) (n : Nat) (a : List FV) (c : ByteArray) (d e : Int) (f : ByteArray) (g : List FV) : J_ref03_Quote_1_0 R k w n a c d e f g = ifB (!(ByteArray.toList f == ByteArray.toList (⟨#[]⟩ : ByteArray)))
 (when (decide ((List.length g + List.length (List.map (fun b => FV.int .u8 b.toNat) f.data.toList)) * 1 ≤ roomy) && decide (List.length g + List.length (List.map (fun b => FV.int .u8 b.toNat) f.data.toList) ≤ roomy)) (L_ref03_Quote_1_0 R k w n a c (IntKind.wrap .i64 (d + 1)) (g ++ (List.map (fun b => FV.int .u8 b.toNat) f.data.toList))))
 (ifB (decide (e < 32))
 (when ((decide (0 ≤ (IntKind.wrap .i64 (Int.tdiv e 16)))) && (decide ((IntKind.wrap .i64 (Int.tdiv e 16)) < (ByteArray.size c : Int)))) (when ((decide (0 ≤ (Int.tmod e 16))) && (decide ((Int.tmod e 16) < (ByteArray.size c : Int)))) (when (decide ((List.length g + List.length [FV.int .u8 92, .int .u8 117, .int .u8 48, .int .u8 48, (.int .u8 (((Array.getD (ByteArray.data c) (Int.toNat (IntKind.wrap .i64 (Int.tdiv e 16))) 0).toNat : Nat) : Int)), (.int .u8 (((Array.getD (ByteArray.data c) (Int.toNat (Int.tmod e 16)) 0).toNat : Nat) : Int))]) * 1 ≤ roomy) && decide (List.length g + List.length [FV.int .u8 92, .int .u8 117, .int .u8 48, .int .u8 48, (.int .u8 (((Array.getD (ByteArray.data c) (Int.toNat (IntKind.wrap .i64 (Int.tdiv e 16))) 0).toNat : Nat) : Int)), (.int .u8 (((Array.getD (ByteArray.data c) (Int.toNat (Int.tmod e 16)) 0).toNat : Nat) : Int))] ≤ roomy)) (L_ref03_Quote_1_0 R k w n a c (IntKind.wrap .i64 (d + 1)) (g ++ [FV.int .u8 92, .int .u8 117, .int .u8 48, .int .u8 48, (.int .u8 (((Array.getD (ByteArray.data c) (Int.toNat (IntKind.wrap .i64 (Int.tdiv e 16))) 0).toNat : Nat) : Int)), (.int .u8 (((Array.getD (ByteArray.data c) (Int.toNat (Int.tmod e 16)) 0).toNat : Nat) : Int))])))))
 (onR (R N_ref03_Put [.fz (.int .i64 e)]) fun r0 => when (List.isEmpty r0.2 && allF [.fz] r0.1) (when ((isSl (toF (List.getD r0.1 0 em))) && (List.all (toSl (toF (List.getD r0.1 0 em))) (fits 1 false))) (when (decide ((List.length g + List.length (toSl (toF (List.getD r0.1 0 em)))) * 1 ≤ roomy) && decide (List.length g + List.length (toSl (toF (List.getD r0.1 0 em))) ≤ roomy)) (L_ref03_Quote_1_0 R k w n a c (IntKind.wrap .i64 (d + 1)) (g ++ (toSl (toF (List.getD r0.1 0 em))))))))) := by kernel_rfl
theorem X_ref03_Quote_1_0_eq (R : Orc) (k : Nat) (w : Bool) (a : List FV) : K_ref03_Quote_1 R k w (.exit 0) (X_ref03_Quote_1_0 a) = when (decide ((List.length a + List.length [FV.int .u8 34]) * 1 ≤ roomy) && decide (List.length a + List.length [FV.int .u8 34] ≤ roomy)) (when (List.all (a ++ [FV.int .u8 34]) (isInt .u8)) (some ([.fz (.str (⟨(List.map (fun e => UInt8.ofNat (toInt e).toNat) (a ++ [FV.int .u8 34])).toArray⟩ : ByteArray))], []))) := by kernel_rfl
def C_erase_under : ACode := codeOf 63 Try.f63
def A_erase_under_b1 : ACode := C_erase_under.at [1, 1, 1, 1, 0, 1, 0, 0]
def A_erase_under_s1 : ACode := C_erase_under.at [1, 1, 1, 1, 1]
def A_erase_under : AFunc := ⟨4, [(.cell 8 8 true, .fz)], C_erase_under, none⟩
def K_erase_under_1 (R : Orc) (k : Nat) (w : Bool) : AExit → St → Option Ans := (kBlk 0 (kSeq R k w [] A_erase_under_s1 (kFin R [(.cell 8 8 true, .fz)] [])))
def L_erase_under_1_0 (R : Orc) (k : Nat) (w : Bool) (n : Nat) (a : FV) (b c d e f g h i j : Int) (l : ByteArray) (m o : List FV) (p q s t u : Int) (v : ByteArray) (x : List FV) := loopL R k w [] [0, 2, 3, 5, 8, 9, 30, 31] [0, 2, 5, 8, 9] A_erase_under_b1 n ⟨[(0, .fz (.pt 195 true a 0)), (2, .fz (.int .i64 b)), (3, .fz (.int .i64 c)), (5, .ptr 4096 0 0), (8, .ptr 4097 0 0), (9, .rw 4098), (30, .fz (.int .i64 d)), (31, .fz (.int .i64 e))], [(4095, .dead), (4096, .var 8 true (.fz (.ag [.int .i64 f, .int .i64 g, .int .i64 h, .int .i64 i, .int .i64 j, .str l, .sl m, .sl o]))), (4097, .var 8 true (.ag [.fz (.int .i64 p), .fz (.int .i64 q), .fz (.int .i64 s), .fz (.int .i64 t), .fz (.int .i64 u), .fz (.str v), .nils, .nils])), (4098, .row 8 true x)]⟩
def X_erase_under_1_0 (a : FV) (b c d e f g : Int) (h : ByteArray) (i j : List FV) (l m o p q : Int) (s : ByteArray) (t : List FV) : St := ⟨[(0, .fz (.pt 195 true a 0)), (2, .fz (.int .i64 b)), (5, .ptr 4096 0 0), (8, .ptr 4097 0 0), (9, .rw 4098)], [(4095, .dead), (4096, .var 8 true (.fz (.ag [.int .i64 c, .int .i64 d, .int .i64 e, .int .i64 f, .int .i64 g, .str h, .sl i, .sl j]))), (4097, .var 8 true (.ag [.fz (.int .i64 l), .fz (.int .i64 m), .fz (.int .i64 o), .fz (.int .i64 p), .fz (.int .i64 q), .fz (.str s), .nils, .nils])), (4098, .row 8 true t)]⟩
theorem E_erase_under (R : Orc) (k : Nat) (w : Bool) (a : FV) (b c d e f : Int) (g : ByteArray) (h i : List FV) (j l : Int) : callL R k w A_erase_under [.fz (.pt 195 true a 0), .fz (.ag [.int .i64 b, .int .i64 c, .int .i64 d, .int .i64 e, .int .i64 f, .str g, .sl h, .sl i]), .fz (.int .i64 j), .fz (.int .i64 l)] = onR (R N_level_Lattice_Join [.fz (.pt 195 true a 0), .fz (.int .i64 j), .fz (.int .i64 b)]) fun r0 => when (List.isEmpty r0.2 && allF [.fz] r0.1) (when (isInt .i64 (toF (List.getD r0.1 0 em))) (onR (R N_level_Lattice_Leq [.fz (.pt 195 true a 0), .fz (.int .i64 (toInt (toF (List.getD r0.1 0 em)))), .fz (.int .i64 l)]) fun r1 => when (List.isEmpty r1.2 && allF [.fz] r1.1) (when (isBool (toF (List.getD r1.1 0 em))) (ifB (!(toBool (toF (List.getD r1.1 0 em))))
 (onR (R N_erase_hole [.fz (.pt 195 true a 0)]) fun r2 => when (List.isEmpty r2.2 && allF [.fz] r2.1) (when (fits 8 true (toF (List.getD r2.1 0 em))) (some ([.fz (toF (List.getD r2.1 0 em))], []))))
 (when (decide (0 ≤ (List.length h : Int)) && (decide ((List.length h : Int) ≤ (List.length h : Int)) && (decide (104 * (List.length h : Int) ≤ roomy) && decide ((List.length h : Int) ≤ roomy)))) (onL (L_erase_under_1_0 R k w k a (toInt (toF (List.getD r0.1 0 em))) l (List.length h : Int) 0 b c d e f g h i 0 0 0 0 0 (⟨#[]⟩ : ByteArray) (List.replicate (Int.toNat (List.length h : Int)) (FV.ag [FV.int .i64 0, FV.int .i64 0, FV.int .i64 0, .int .i64 0, .int .i64 0, (.str (⟨#[]⟩ : ByteArray)), .sl [], .sl []]))) (K_erase_under_1 R k w))))))) := by kernel_rfl
theorem L_erase_under_1_0_eq (R : Orc) (k : Nat) (w : Bool) (n : Nat) (a : FV) (b c d e f g h i j : Int) (l : ByteArray) (m o : List FV) (p q s t u : Int) (v : ByteArray) (x : List FV) : L_erase_under_1_0 R k w (n + 1) a b c d e f g h i j l m o p q s t u v x = ifB (decide (e < d))
 (when ((decide (0 ≤ e)) && (decide (e < (List.length m : Int)))) (when (fits 8 true (List.getD m (Int.toNat e) nilp)) (onR (R N_erase_under [.fz (.pt 195 true a 0), .fz (List.getD m (Int.toNat e) nilp), .fz (.int .i64 b), .fz (.int .i64 c)]) fun r3 => when (List.isEmpty r3.2 && allF [.fz] r3.1) (when ((decide (0 ≤ e)) && (decide (e < (List.length x : Int)))) (when (Nat.blt (Int.toNat e) (List.length x)) (when (fits 8 true (toF (List.getD r3.1 0 em))) (L_erase_under_1_0 R k w n a b c d (IntKind.wrap .i64 (e + 1)) f g h i j l m o p q s t u v (List.set x (Int.toNat e) (toF (List.getD r3.1 0 em))))))))))
 (some ((.exit 0), X_erase_under_1_0 a b f g h i j l m o p q s t u v x)) := by kernel_rfl
theorem X_erase_under_1_0_eq (R : Orc) (k : Nat) (w : Bool) (a : FV) (b c d e f g : Int) (h : ByteArray) (i j : List FV) (l m o p q : Int) (s : ByteArray) (t : List FV) : K_erase_under_1 R k w (.exit 0) (X_erase_under_1_0 a b c d e f g h i j l m o p q s t) = onR (R N_node_Array [.fz (.pt 195 true a 0), .fz (.int .i64 b), .fz (.sl t)]) fun r4 => when (List.isEmpty r4.2 && allF [.fz] r4.1) (when (fits 8 true (toF (List.getD r4.1 0 em))) (when (List.all j (fits 1 false)) (when (decide (((0 : Nat) + List.length j) * 16 ≤ roomy) && decide ((0 : Nat) + List.length j ≤ roomy)) (when ((isAg 8 (toF (List.getD r4.1 0 em))) && true) (when (isAg 8 (.ag (List.set (toAg (toF (List.getD r4.1 0 em))) 2 (.int .i64 e)))) (some ([.fz (.ag [(cell (.ag (List.set (toAg (toF (List.getD r4.1 0 em))) 2 (.int .i64 e))) 0), (cell (.ag (List.set (toAg (toF (List.getD r4.1 0 em))) 2 (.int .i64 e))) 1), (cell (.ag (List.set (toAg (toF (List.getD r4.1 0 em))) 2 (.int .i64 e))) 2), .int .i64 f, .int .i64 g, .str h, (cell (.ag (List.set (toAg (toF (List.getD r4.1 0 em))) 2 (.int .i64 e))) 6), .sl j])], []))))))) := by kernel_rfl
def C_level_Name : ACode := codeOf 64 Try.f64
def A_level_Name_j1 : ACode := C_level_Name.at [1, 1, 0, 0, 1, 0, 0, 1, 1, 0, 0, 1, 1, 1, 0, 1, 0]
def A_level_Name_j2 : ACode := C_level_Name.at [1, 1, 0, 0, 1, 0, 0, 1, 1, 0, 0, 1, 1, 1, 0]
def A_level_Name_s3 : ACode := C_level_Name.at [1, 1, 0, 0, 1, 0, 0, 1, 1, 1]
def A_level_Name_b1 : ACode := C_level_Name.at [1, 1, 0, 0, 1, 0, 0]
def A_level_Name_s4 : ACode := C_level_Name.at [1, 1, 0, 1]
def A_level_Name_j5 : ACode := C_level_Name.at [1, 1, 0]
def A_level_Name : AFunc := ⟨1, [(.tmp 2, .fz)], C_level_Name, none⟩
def J_level_Name_5_0 (R : Orc) (k : Nat) (w : Bool) (a : ByteArray) := execL R k w [] A_level_Name_j5 Ans ⟨[(0, .fz (.str a))], [(4095, .dead)]⟩ (kFin R [(.tmp 2, .fz)] [])
def K_level_Name_1 (R : Orc) (k : Nat) (w : Bool) : AExit → St → Option Ans := (kBlk 0 (kSeq R k w [] A_level_Name_s4 (kFin R [(.tmp 2, .fz)] [])))
def L_level_Name_1_0 (R : Orc) (k : Nat) (w : Bool) (n : Nat) (a : ByteArray) (b c : Int) := loopL R k w [] [0, 15, 16] [2] A_level_Name_b1 n ⟨[(0, .fz (.str a)), (15, .fz (.int .i64 b)), (16, .fz (.int .i64 c))], [(4095, .dead)]⟩
def J_level_Name_2_0 (R : Orc) (k : Nat) (w : Bool) (n : Nat) (a : ByteArray) (b c : Int) (d : Bool) (e f : Int) := execL R k w [] A_level_Name_j2 (AExit × St) ⟨[(0, .fz (.str a)), (3, .fz (.int .i64 b)), (4, .fz (.int .u8 c)), (5, .fz (.bool d)), (15, .fz (.int .i64 e)), (16, .fz (.int .i64 f))], [(4095, .dead)]⟩ (kBlk 1 (kSeq R k w [] A_level_Name_s3 (kLoop R k w [] [0, 15, 16] [2] A_level_Name_b1 n)))
def X_level_Name_1_0 : St := ⟨[], [(4095, .dead)]⟩
def J_level_Name_1_0 (R : Orc) (k : Nat) (w : Bool) (n : Nat) (a : ByteArray) (b : Int) (c d : Bool) (e f : Int) := execL R k w [] A_level_Name_j1 (AExit × St) ⟨[(0, .fz (.str a)), (3, .fz (.int .i64 b)), (5, .fz (.bool c)), (6, .fz (.bool d)), (15, .fz (.int .i64 e)), (16, .fz (.int .i64 f))], [(4095, .dead)]⟩ (kBlk 1 (kSeq R k w [] A_level_Name_s3 (kLoop R k w [] [0, 15, 16] [2] A_level_Name_b1 n)))
def X_level_Name_1_1 (a : Bool) : St := ⟨[(2, .fz (.bool a))], [(4095, .dead)]⟩
theorem E_level_Name (R : Orc) (k : Nat) (w : Bool) (a : ByteArray) : callL R k w A_level_Name [.fz (.str a)] = ifB (ByteArray.toList a == ByteArray.toList (⟨#[]⟩ : ByteArray))
 (some ([.fz (.bool false)], []))
 (ifB (decide ((ByteArray.size a : Int) > 16))
 (some ([.fz (.bool false)], []))
 (jump w (J_level_Name_5_0 R k w a))) := by kernel_rfl
theorem J_level_Name_5_0_eq (R : Orc) (k : Nat) (w : Bool) (a : ByteArray) : J_level_Name_5_0 R k w a = onL (L_level_Name_1_0 R k w k a (ByteArray.size a : Int) 0) (K_level_Name_1 R k w) := by kernel_rfl
theorem L_level_Name_1_0_eq (R : Orc) (k : Nat) (w : Bool) (n : Nat) (a : ByteArray) (b c : Int) : L_level_Name_1_0 R k w (n + 1) a b c = ifB (decide (c < b))
 (when ((decide (0 ≤ c)) && (decide (c < (ByteArray.size a : Int)))) (ifB (decide ((((Array.getD (ByteArray.data a) (Int.toNat c) 0).toNat : Nat) : Int) ≥ 97))
 (jump w (J_level_Name_2_0 R k w n a c (((Array.getD (ByteArray.data a) (Int.toNat c) 0).toNat : Nat) : Int) (decide ((((Array.getD (ByteArray.data a) (Int.toNat c) 0).toNat : Nat) : Int) ≤ 122)) b c))
 (jump w (J_level_Name_2_0 R k w n a c (((Array.getD (ByteArray.data a) (Int.toNat c) 0).toNat : Nat) : Int) false b c))))
 (some ((.exit 0), X_level_Name_1_0)) := by kernel_rfl
theorem J_level_Name_2_0_eq (R : Orc) (k : Nat) (w : Bool) (n : Nat) (a : ByteArray) (b c : Int) (d : Bool) (e f : Int) : J_level_Name_2_0 R k w n a b c d e f = ifB (decide (c ≥ 48))
 (jump w (J_level_Name_1_0 R k w n a b d (decide (c ≤ 57)) e f))
 (jump w (J_level_Name_1_0 R k w n a b d false e f)) := by kernel_rfl
theorem X_level_Name_1_0_eq (R : Orc) (k : Nat) (w : Bool) : K_level_Name_1 R k w (.exit 0) (X_level_Name_1_0) = some ([.fz (.bool true)], []) := by kernel_rfl
theorem J_level_Name_1_0_eq (R : Orc) (k : Nat) (w : Bool) (n : Nat) (a : ByteArray) (b : Int) (c d : Bool) (e f : Int) : J_level_Name_1_0 R k w n a b c d e f = ifB (!c)
 (ifB (!d)
 (some (.ret, X_level_Name_1_1 false))
 (ifB (b == 0)
 (some (.ret, X_level_Name_1_1 false))
 (L_level_Name_1_0 R k w n a e (IntKind.wrap .i64 (f + 1)))))
 (L_level_Name_1_0 R k w n a e (IntKind.wrap .i64 (f + 1))) := by kernel_rfl
theorem X_level_Name_1_1_eq (R : Orc) (k : Nat) (w a : Bool) : K_level_Name_1 R k w .ret (X_level_Name_1_1 a) = some ([.fz (.bool a)], []) := by kernel_rfl
def C_level_turned : ACode := codeOf 65 Try.f65
def A_level_turned_b1 : ACode := C_level_turned.at [1, 1, 0, 1, 0, 0, 1, 1, 0, 0, 1, 1, 0, 0]
def A_level_turned_s1 : ACode := C_level_turned.at [1, 1, 0, 1, 0, 0, 1, 1, 1]
def A_level_turned_b2 : ACode := C_level_turned.at [1, 1, 0, 1, 0, 0]
def A_level_turned_s2 : ACode := C_level_turned.at [1, 1, 1]
def A_level_turned : AFunc := ⟨1, [(.cell 2 64 true, .fz)], C_level_turned, none⟩
def K_level_turned_2 (R : Orc) (k : Nat) (w : Bool) : AExit → St → Option Ans := (kBlk 0 (kSeq R k w [] A_level_turned_s2 (kFin R [(.cell 2 64 true, .fz)] [])))
def L_level_turned_2_0 (R : Orc) (k : Nat) (w : Bool) (n : Nat) (a : Int) (b c d : FV) := loopL R k w [] [1, 2, 3, 6] [2, 3] A_level_turned_b2 n ⟨[(1, .ptr 4096 0 0), (2, .ptr 4097 0 0), (3, .ptr 4098 0 0), (6, .fz (.int .i64 a))], [(4095, .dead), (4096, .var 64 true (.fz b)), (4097, .var 64 true (.fz c)), (4098, .var 64 true (.fz d))]⟩
def K_level_turned_1 (R : Orc) (k : Nat) (w : Bool) (n : Nat) : AExit → St → Option (AExit × St) := (kBlk 2 (kBlk 1 (kSeq R k w [] A_level_turned_s1 (kLoop R k w [] [1, 2, 3, 6] [2, 3] A_level_turned_b2 n))))
def L_level_turned_1_0 (R : Orc) (k : Nat) (w : Bool) (n : Nat) (a b c : Int) (d e f : FV) := loopL R k w [] [1, 2, 3, 4, 6, 9] [1, 2, 3, 6] A_level_turned_b1 n ⟨[(1, .ptr 4096 0 0), (2, .ptr 4097 0 0), (3, .ptr 4098 0 0), (4, .fz (.int .i64 a)), (6, .fz (.int .i64 b)), (9, .fz (.int .i64 c))], [(4095, .dead), (4096, .var 64 true (.fz d)), (4097, .var 64 true (.fz e)), (4098, .var 64 true (.fz f))]⟩
def X_level_turned_2_0 (a b : FV) : St := ⟨[(2, .ptr 4096 0 0), (3, .ptr 4097 0 0)], [(4095, .dead), (4096, .var 64 true (.fz a)), (4097, .var 64 true (.fz b))]⟩
def X_level_turned_1_0 (a : Int) (b c d : FV) : St := ⟨[(1, .ptr 4096 0 0), (2, .ptr 4097 0 0), (3, .ptr 4098 0 0), (6, .fz (.int .i64 a))], [(4095, .dead), (4096, .var 64 true (.fz b)), (4097, .var 64 true (.fz c)), (4098, .var 64 true (.fz d))]⟩
theorem E_level_turned (R : Orc) (k : Nat) (w : Bool) (a : FV) : callL R k w A_level_turned [.fz a] = when (fits 64 true a) (onL (L_level_turned_2_0 R k w k 0 a (.ag [.bool false, .bool false, .bool false, .bool false, .bool false, .bool false, .bool false, .bool false, .bool false, .bool false, .bool false, .bool false, .bool false, .bool false, .bool false, .bool false, .bool false, .bool false, .bool false, .bool false, .bool false, .bool false, .bool false, .bool false, .bool false, .bool false, .bool false, .bool false, .bool false, .bool false, .bool false, .bool false, .bool false, .bool false, .bool false, .bool false, .bool false, .bool false, .bool false, .bool false, .bool false, .bool false, .bool false, .bool false, .bool false, .bool false, .bool false, .bool false, .bool false, .bool false, .bool false, .bool false, .bool false, .bool false, .bool false, .bool false, .bool false, .bool false, .bool false, .bool false, .bool false, .bool false, .bool false, .bool false]) (.ag [.bool false, .bool false, .bool false, .bool false, .bool false, .bool false, .bool false, .bool false, .bool false, .bool false, .bool false, .bool false, .bool false, .bool false, .bool false, .bool false, .bool false, .bool false, .bool false, .bool false, .bool false, .bool false, .bool false, .bool false, .bool false, .bool false, .bool false, .bool false, .bool false, .bool false, .bool false, .bool false, .bool false, .bool false, .bool false, .bool false, .bool false, .bool false, .bool false, .bool false, .bool false, .bool false, .bool false, .bool false, .bool false, .bool false, .bool false, .bool false, .bool false, .bool false, .bool false, .bool false, .bool false, .bool false, .bool false, .bool false, .bool false, .bool false, .bool false, .bool false, .bool false, .bool false, .bool false, .bool false])) (K_level_turned_2 R k w)) := by kernel_rfl
theorem L_level_turned_2_0_eq (R : Orc) (k : Nat) (w : Bool) (n : Nat) (a : Int) (b c d : FV) : L_level_turned_2_0 R k w (n + 1) a b c d = ifB (decide (a < 8))
 (onL (L_level_turned_1_0 R k w k a a 0 b c d) (K_level_turned_1 R k w n))
 (some ((.exit 0), X_level_turned_2_0 c d)) := by kernel_rfl
theorem L_level_turned_1_0_eq (R : Orc) (k : Nat) (w : Bool) (n : Nat) (a b c : Int) (d e f : FV) : L_level_turned_1_0 R k w (n + 1) a b c d e f = ifB (decide (c < 8))
 (when (decide (0 ≤ a) && decide (a < 8)) (when (decide (0 ≤ c) && decide (c < 8)) (when (isAg 64 d) (when (Nat.blt ((0 + ((Int.toNat a) * 8)) + ((Int.toNat c) * 1)) 64) (when (isBool (cell d ((0 + ((Int.toNat a) * 8)) + ((Int.toNat c) * 1)))) (when (decide (0 ≤ c) && decide (c < 8)) (when (decide (0 ≤ a) && decide (a < 8)) (when ((isAg 64 f) && true) (when (Nat.blt ((0 + ((Int.toNat c) * 8)) + ((Int.toNat a) * 1)) 64) (L_level_turned_1_0 R k w n a b (IntKind.wrap .i64 (c + 1)) d e (.ag (List.set (toAg f) ((0 + ((Int.toNat c) * 8)) + ((Int.toNat a) * 1)) (.bool (toBool (cell d ((0 + ((Int.toNat a) * 8)) + ((Int.toNat c) * 1)))))))))))))))))
 (some ((.exit 2), X_level_turned_1_0 b d e f)) := by kernel_rfl
theorem X_level_turned_2_0_eq (R : Orc) (k : Nat) (w : Bool) (a b : FV) : K_level_turned_2 R k w (.exit 0) (X_level_turned_2_0 a b) = when (fits 64 true b) (some ([.fz b], [])) := by kernel_rfl
theorem X_level_turned_1_0_eq (R : Orc) (k : Nat) (w : Bool) (n : Nat) (a : Int) (b c d : FV) : K_level_turned_1 R k w n (.exit 2) (X_level_turned_1_0 a b c d) = L_level_turned_2_0 R k w n (IntKind.wrap .i64 (a + 1)) b c d := by kernel_rfl
def C_level_over : ACode := codeOf 66 Try.f66
def A_level_over_b1 : ACode := C_level_over.at [1, 0, 1, 0, 0, 1, 1, 0, 0, 1, 1, 0, 1, 0, 1, 0, 0]
def A_level_over_s1 : ACode := C_level_over.at [1, 0, 1, 0, 0, 1, 1, 0, 0, 1, 1, 0, 1, 1]
def A_level_over_j2 : ACode := C_level_over.at [1, 0, 1, 0, 0, 1, 1, 0, 0, 1, 1, 0]
def A_level_over_s3 : ACode := C_level_over.at [1, 0, 1, 0, 0, 1, 1, 1]
def A_level_over_b2 : ACode := C_level_over.at [1, 0, 1, 0, 0]
def A_level_over_s4 : ACode := C_level_over.at [1, 1]
def A_level_over : AFunc := ⟨4, [(.tmp 8, .fz)], C_level_over, none⟩
def K_level_over_2 (R : Orc) (k : Nat) (w : Bool) : AExit → St → Option Ans := (kBlk 0 (kSeq R k w [] A_level_over_s4 (kFin R [(.tmp 8, .fz)] [])))
def L_level_over_2_0 (R : Orc) (k : Nat) (w : Bool) (n : Nat) (a b c d e : Int) (f : FV) := loopL R k w [] [1, 2, 3, 4, 12, 13] [8] A_level_over_b2 n ⟨[(1, .fz (.int .i64 a)), (2, .fz (.int .i64 b)), (3, .fz (.int .i64 c)), (4, .ptr 4096 0 0), (12, .fz (.int .i64 d)), (13, .fz (.int .i64 e))], [(4095, .dead), (4096, .var 64 true (.fz f))]⟩
def J_level_over_2_0 (R : Orc) (k : Nat) (w : Bool) (n : Nat) (a b c d e f : Int) (g : FV) := execL R k w [] A_level_over_j2 (AExit × St) ⟨[(1, .fz (.int .i64 a)), (2, .fz (.int .i64 b)), (3, .fz (.int .i64 c)), (4, .ptr 4096 0 0), (9, .fz (.int .i64 d)), (12, .fz (.int .i64 e)), (13, .fz (.int .i64 f))], [(4095, .dead), (4096, .var 64 true (.fz g))]⟩ (kBlk 1 (kSeq R k w [] A_level_over_s3 (kLoop R k w [] [1, 2, 3, 4, 12, 13] [8] A_level_over_b2 n)))
def X_level_over_2_0 : St := ⟨[], [(4095, .dead)]⟩
def K_level_over_1 (R : Orc) (k : Nat) (w : Bool) (n : Nat) : AExit → St → Option (AExit × St) := (kBlk 2 (kSeq R k w [] A_level_over_s1 (kBlk 1 (kSeq R k w [] A_level_over_s3 (kLoop R k w [] [1, 2, 3, 4, 12, 13] [8] A_level_over_b2 n)))))
def L_level_over_1_0 (R : Orc) (k : Nat) (w : Bool) (n : Nat) (a b c d : Int) (e : Bool) (f g h i : Int) (j : FV) := loopL R k w [] [1, 2, 3, 4, 9, 10, 12, 13, 30, 31] [1, 2, 3, 4, 9, 10, 12, 13] A_level_over_b1 n ⟨[(1, .fz (.int .i64 a)), (2, .fz (.int .i64 b)), (3, .fz (.int .i64 c)), (4, .ptr 4096 0 0), (9, .fz (.int .i64 d)), (10, .fz (.bool e)), (12, .fz (.int .i64 f)), (13, .fz (.int .i64 g)), (30, .fz (.int .i64 h)), (31, .fz (.int .i64 i))], [(4095, .dead), (4096, .var 64 true (.fz j))]⟩
def X_level_over_1_0 (a b c d : Int) (e : Bool) (f g : Int) (h : FV) : St := ⟨[(1, .fz (.int .i64 a)), (2, .fz (.int .i64 b)), (3, .fz (.int .i64 c)), (4, .ptr 4096 0 0), (9, .fz (.int .i64 d)), (10, .fz (.bool e)), (12, .fz (.int .i64 f)), (13, .fz (.int .i64 g))], [(4095, .dead), (4096, .var 64 true (.fz h))]⟩
def X_level_over_2_1 (a : Int) : St := ⟨[(8, .fz (.int .i64 a))], [(4095, .dead)]⟩
theorem E_level_over (R : Orc) (k : Nat) (w : Bool) (a : FV) (b c d : Int) : callL R k w A_level_over [.fz a, .fz (.int .i64 b), .fz (.int .i64 c), .fz (.int .i64 d)] = when (fits 64 true a) (onL (L_level_over_2_0 R k w k b c d b 0 a) (K_level_over_2 R k w)) := by kernel_rfl
theorem L_level_over_2_0_eq (R : Orc) (k : Nat) (w : Bool) (n : Nat) (a b c d e : Int) (f : FV) : L_level_over_2_0 R k w (n + 1) a b c d e f = ifB (decide (e < d))
 (when (decide (0 ≤ b) && decide (b < 8)) (when (decide (0 ≤ e) && decide (e < 8)) (when (isAg 64 f) (when (Nat.blt ((0 + ((Int.toNat b) * 8)) + ((Int.toNat e) * 1)) 64) (when (isBool (cell f ((0 + ((Int.toNat b) * 8)) + ((Int.toNat e) * 1)))) (ifB (!(toBool (cell f ((0 + ((Int.toNat b) * 8)) + ((Int.toNat e) * 1)))))
 (L_level_over_2_0 R k w n a b c d (IntKind.wrap .i64 (e + 1)) f)
 (when (decide (0 ≤ c) && decide (c < 8)) (when (decide (0 ≤ e) && decide (e < 8)) (when (isAg 64 f) (when (Nat.blt ((0 + ((Int.toNat c) * 8)) + ((Int.toNat e) * 1)) 64) (when (isBool (cell f ((0 + ((Int.toNat c) * 8)) + ((Int.toNat e) * 1)))) (ifB (!(toBool (cell f ((0 + ((Int.toNat c) * 8)) + ((Int.toNat e) * 1)))))
 (L_level_over_2_0 R k w n a b c d (IntKind.wrap .i64 (e + 1)) f)
 (jump w (J_level_over_2_0 R k w n a b c e d e f))))))))))))))
 (some ((.exit 0), X_level_over_2_0)) := by kernel_rfl
theorem J_level_over_2_0_eq (R : Orc) (k : Nat) (w : Bool) (n : Nat) (a b c d e f : Int) (g : FV) : J_level_over_2_0 R k w n a b c d e f g = onL (L_level_over_1_0 R k w k a b c d true e f a 0 g) (K_level_over_1 R k w n) := by kernel_rfl
theorem X_level_over_2_0_eq (R : Orc) (k : Nat) (w : Bool) : K_level_over_2 R k w (.exit 0) (X_level_over_2_0) = some ([.fz (.int .i64 (-1))], []) := by kernel_rfl
theorem L_level_over_1_0_eq (R : Orc) (k : Nat) (w : Bool) (n : Nat) (a b c d : Int) (e : Bool) (f g h i : Int) (j : FV) : L_level_over_1_0 R k w (n + 1) a b c d e f g h i j = ifB (decide (i < h))
 (ifB e
 (when (decide (0 ≤ b) && decide (b < 8)) (when (decide (0 ≤ i) && decide (i < 8)) (when (isAg 64 j) (when (Nat.blt ((0 + ((Int.toNat b) * 8)) + ((Int.toNat i) * 1)) 64) (when (isBool (cell j ((0 + ((Int.toNat b) * 8)) + ((Int.toNat i) * 1)))) (ifB (!(toBool (cell j ((0 + ((Int.toNat b) * 8)) + ((Int.toNat i) * 1)))))
 (L_level_over_1_0 R k w n a b c d true f g h (IntKind.wrap .i64 (i + 1)) j)
 (when (decide (0 ≤ c) && decide (c < 8)) (when (decide (0 ≤ i) && decide (i < 8)) (when (isAg 64 j) (when (Nat.blt ((0 + ((Int.toNat c) * 8)) + ((Int.toNat i) * 1)) 64) (when (isBool (cell j ((0 + ((Int.toNat c) * 8)) + ((Int.toNat i) * 1)))) (ifB (!(toBool (cell j ((0 + ((Int.toNat c) * 8)) + ((Int.toNat i) * 1)))))
 (L_level_over_1_0 R k w n a b c d true f g h (IntKind.wrap .i64 (i + 1)) j)
 (when (decide (0 ≤ d) && decide (d < 8)) (when (decide (0 ≤ i) && decide (i < 8)) (when (isAg 64 j) (when (Nat.blt ((0 + ((Int.toNat d) * 8)) + ((Int.toNat i) * 1)) 64) (when (isBool (cell j ((0 + ((Int.toNat d) * 8)) + ((Int.toNat i) * 1)))) (L_level_over_1_0 R k w n a b c d (toBool (cell j ((0 + ((Int.toNat d) * 8)) + ((Int.toNat i) * 1)))) f g h (IntKind.wrap .i64 (i + 1)) j))))))))))))))))))
 (L_level_over_1_0 R k w n a b c d false f g h (IntKind.wrap .i64 (i + 1)) j))
 (some ((.exit 2), X_level_over_1_0 a b c d e f g j)) := by kernel_rfl
theorem X_level_over_1_0_eq (R : Orc) (k : Nat) (w : Bool) (n : Nat) (a b c d : Int) (e : Bool) (f g : Int) (h : FV) : K_level_over_1 R k w n (.exit 2) (X_level_over_1_0 a b c d e f g h) = ifB e
 (some (.ret, X_level_over_2_1 d))
 (L_level_over_2_0 R k w n a b c f (IntKind.wrap .i64 (g + 1)) h) := by kernel_rfl
theorem X_level_over_2_1_eq (R : Orc) (k : Nat) (w : Bool) (a : Int) : K_level_over_2 R k w .ret (X_level_over_2_1 a) = some ([.fz (.int .i64 a)], []) := by kernel_rfl
def C_ref09_Deep : ACode := codeOf 67 Try.f67
def A_ref09_Deep_b1 : ACode := C_ref09_Deep.at [1, 1, 0, 1, 0, 0]
def A_ref09_Deep_s1 : ACode := C_ref09_Deep.at [1, 1, 1]
def A_ref09_Deep : AFunc := ⟨2, [(.tmp 4, .fz)], C_ref09_Deep, none⟩
def K_ref09_Deep_1 (R : Orc) (k : Nat) (w : Bool) : AExit → St → Option Ans := (kBlk 0 (kSeq R k w [] A_ref09_Deep_s1 (kFin R [(.tmp 4, .fz)] [])))
def L_ref09_Deep_1_0 (R : Orc) (k : Nat) (w : Bool) (n : Nat) (a : List FV) (b c d e f g h : Int) (i : ByteArray) (j l : List FV) := loopL R k w [] [0, 3, 5, 6] [5] A_ref09_Deep_b1 n ⟨[(0, .fz (.sl a)), (3, .ptr 4096 0 0), (5, .fz (.int .i64 b)), (6, .fz (.int .i64 c))], [(4095, .dead), (4096, .var 8 true (.fz (.ag [.int .i64 d, .int .i64 e, .int .i64 f, .int .i64 g, .int .i64 h, .str i, .sl j, .sl l])))]⟩
def X_ref09_Deep_1_0 (a : Int) : St := ⟨[(5, .fz (.int .i64 a))], [(4095, .dead)]⟩
theorem E_ref09_Deep (R : Orc) (k : Nat) (w : Bool) (a : List FV) (b c d e f : Int) (g : ByteArray) (h i : List FV) : callL R k w A_ref09_Deep [.fz (.sl a), .fz (.ag [.int .i64 b, .int .i64 c, .int .i64 d, .int .i64 e, .int .i64 f, .str g, .sl h, .sl i])] = onL (L_ref09_Deep_1_0 R k w k a b 0 b c d e f g h i) (K_ref09_Deep_1 R k w) := by kernel_rfl
theorem L_ref09_Deep_1_0_eq (R : Orc) (k : Nat) (w : Bool) (n : Nat) (a : List FV) (b c d e f g h : Int) (i : ByteArray) (j l : List FV) : L_ref09_Deep_1_0 R k w (n + 1) a b c d e f g h i j l = ifB (decide (c < (List.length j : Int)))
 (when ((decide (0 ≤ c)) && (decide (c < (List.length j : Int)))) (when (fits 8 true (List.getD j (Int.toNat c) nilp)) (onR (R N_ref09_Deep [.fz (.sl a), .fz (List.getD j (Int.toNat c) nilp)]) fun r0 => when (List.isEmpty r0.2 && allF [.fz] r0.1) (when (isInt .i64 (toF (List.getD r0.1 0 em))) (onR (R N_ref09_Join [.fz (.sl a), .fz (.int .i64 b), .fz (.int .i64 (toInt (toF (List.getD r0.1 0 em))))]) fun r1 => when (List.isEmpty r1.2 && allF [.fz] r1.1) (when (isInt .i64 (toF (List.getD r1.1 0 em))) (L_ref09_Deep_1_0 R k w n a (toInt (toF (List.getD r1.1 0 em))) (IntKind.wrap .i64 (c + 1)) d e f g h i j l)))))))
 (some ((.exit 0), X_ref09_Deep_1_0 b)) := by kernel_rfl
theorem X_ref09_Deep_1_0_eq (R : Orc) (k : Nat) (w : Bool) (a : Int) : K_ref09_Deep_1 R k w (.exit 0) (X_ref09_Deep_1_0 a) = some ([.fz (.int .i64 a)], []) := by kernel_rfl
def C_ref09_Join : ACode := codeOf 68 Try.f68
def A_ref09_Join : AFunc := ⟨3, [(.tmp 6, .fz)], C_ref09_Join, none⟩
theorem E_ref09_Join (R : Orc) (k : Nat) (w : Bool) (a : List FV) (b c : Int) : callL R k w A_ref09_Join [.fz (.sl a), .fz (.int .i64 b), .fz (.int .i64 c)] = onR (R N_ref01_Join [.fz (.sl a), .fz (.int .i64 b), .fz (.int .i64 c)]) fun r0 => when (List.isEmpty r0.2 && allF [.fz] r0.1) (when (isSl (toF (List.getD r0.1 0 em))) (when (decide (0 < (List.length (toSl (toF (List.getD r0.1 0 em))) : Int))) (when (fits 1 false (List.getD (toSl (toF (List.getD r0.1 0 em))) 0 nilp)) (when (isInt .i64 (List.getD (toSl (toF (List.getD r0.1 0 em))) 0 nilp)) (some ([.fz (.int .i64 (toInt (List.getD (toSl (toF (List.getD r0.1 0 em))) 0 nilp)))], [])))))) := by kernel_rfl
def C_ref11_sees : ACode := codeOf 69 Try.f69
def A_ref11_sees : AFunc := ⟨3, [(.tmp 6, .fz)], C_ref11_sees, none⟩
theorem E_ref11_sees (R : Orc) (k : Nat) (w : Bool) (a : List FV) (b c : Int) : callL R k w A_ref11_sees [.fz (.sl a), .fz (.int .i64 b), .fz (.int .i64 c)] = ifB (decide (c ≥ 0))
 (ifB (decide (c < (List.length a : Int)))
 (ifB (decide (b ≥ 0))
 (ifB (decide (b < (List.length a : Int)))
 (when ((decide (0 ≤ b)) && (decide (b < (List.length a : Int)))) (when (fits 1 false (List.getD a (Int.toNat b) nilp)) (when (isSl (List.getD a (Int.toNat b) nilp)) (when ((decide (0 ≤ c)) && (decide (c < (List.length (toSl (List.getD a (Int.toNat b) nilp)) : Int)))) (when (fits 1 false (List.getD (toSl (List.getD a (Int.toNat b) nilp)) (Int.toNat c) nilp)) (when (isBool (List.getD (toSl (List.getD a (Int.toNat b) nilp)) (Int.toNat c) nilp)) (some ([.fz (.bool (toBool (List.getD (toSl (List.getD a (Int.toNat b) nilp)) (Int.toNat c) nilp)))], []))))))))
 (some ([.fz (.bool false)], [])))
 (some ([.fz (.bool false)], [])))
 (some ([.fz (.bool false)], [])))
 (some ([.fz (.bool false)], [])) := by kernel_rfl
def C_ref09_Top : ACode := codeOf 70 Try.f70
def A_ref09_Top_b1 : ACode := C_ref09_Top.at [1, 0, 1, 0, 0, 1, 0, 0, 1, 0, 1, 0, 0]
def A_ref09_Top_s1 : ACode := C_ref09_Top.at [1, 0, 1, 0, 0, 1, 0, 0, 1, 1]
def A_ref09_Top_s2 : ACode := C_ref09_Top.at [1, 0, 1, 0, 0, 1, 1]
def A_ref09_Top_b2 : ACode := C_ref09_Top.at [1, 0, 1, 0, 0]
def A_ref09_Top_s3 : ACode := C_ref09_Top.at [1, 1]
def A_ref09_Top : AFunc := ⟨1, [(.tmp 2, .fz)], C_ref09_Top, none⟩
def K_ref09_Top_2 (R : Orc) (k : Nat) (w : Bool) : AExit → St → Option Ans := (kBlk 0 (kSeq R k w [] A_ref09_Top_s3 (kFin R [(.tmp 2, .fz)] [])))
def L_ref09_Top_2_0 (R : Orc) (k : Nat) (w : Bool) (n : Nat) (a : List FV) (b : Int) := loopL R k w [] [0, 3] [2] A_ref09_Top_b2 n ⟨[(0, .fz (.sl a)), (3, .fz (.int .i64 b))], [(4095, .dead)]⟩
def K_ref09_Top_1 (R : Orc) (k : Nat) (w : Bool) (n : Nat) : AExit → St → Option (AExit × St) := (kBlk 2 (kSeq R k w [] A_ref09_Top_s1 (kBlk 1 (kSeq R k w [] A_ref09_Top_s2 (kLoop R k w [] [0, 3] [2] A_ref09_Top_b2 n)))))
def L_ref09_Top_1_0 (R : Orc) (k : Nat) (w : Bool) (n : Nat) (a : List FV) (b : Int) (c : Bool) (d : Int) := loopL R k w [] [0, 3, 4, 5] [0, 3, 4] A_ref09_Top_b1 n ⟨[(0, .fz (.sl a)), (3, .fz (.int .i64 b)), (4, .fz (.bool c)), (5, .fz (.int .i64 d))], [(4095, .dead)]⟩
def X_ref09_Top_2_0 : St := ⟨[], [(4095, .dead)]⟩
def X_ref09_Top_1_0 (a : List FV) (b : Int) (c : Bool) : St := ⟨[(0, .fz (.sl a)), (3, .fz (.int .i64 b)), (4, .fz (.bool c))], [(4095, .dead)]⟩
def X_ref09_Top_2_1 (a : Int) : St := ⟨[(2, .fz (.int .i64 a))], [(4095, .dead)]⟩
theorem E_ref09_Top (R : Orc) (k : Nat) (w : Bool) (a : List FV) : callL R k w A_ref09_Top [.fz (.sl a)] = onL (L_ref09_Top_2_0 R k w k a 0) (K_ref09_Top_2 R k w) := by kernel_rfl
theorem L_ref09_Top_2_0_eq (R : Orc) (k : Nat) (w : Bool) (n : Nat) (a : List FV) (b : Int) : L_ref09_Top_2_0 R k w (n + 1) a b = ifB (decide (b < (List.length a : Int)))
 (onL (L_ref09_Top_1_0 R k w k a b true 0) (K_ref09_Top_1 R k w n))
 (some ((.exit 0), X_ref09_Top_2_0)) := by kernel_rfl
theorem L_ref09_Top_1_0_eq (R : Orc) (k : Nat) (w : Bool) (n : Nat) (a : List FV) (b : Int) (c : Bool) (d : Int) : L_ref09_Top_1_0 R k w (n + 1) a b c d = ifB (decide (d < (List.length a : Int)))
 (ifB c
 (when ((decide (0 ≤ d)) && (decide (d < (List.length a : Int)))) (when (fits 1 false (List.getD a (Int.toNat d) nilp)) (when (isSl (List.getD a (Int.toNat d) nilp)) (when ((decide (0 ≤ b)) && (decide (b < (List.length (toSl (List.getD a (Int.toNat d) nilp)) : Int)))) (when (fits 1 false (List.getD (toSl (List.getD a (Int.toNat d) nilp)) (Int.toNat b) nilp)) (when (isBool (List.getD (toSl (List.getD a (Int.toNat d) nilp)) (Int.toNat b) nilp)) (L_ref09_Top_1_0 R k w n a b (toBool (List.getD (toSl (List.getD a (Int.toNat d) nilp)) (Int.toNat b) nilp)) (IntKind.wrap .i64 (d + 1)))))))))
 (L_ref09_Top_1_0 R k w n a b false (IntKind.wrap .i64 (d + 1))))
 (some ((.exit 2), X_ref09_Top_1_0 a b c)) := by kernel_rfl
theorem X_ref09_Top_1_0_eq (R : Orc) (k : Nat) (w : Bool) (n : Nat) (a : List FV) (b : Int) (c : Bool) : K_ref09_Top_1 R k w n (.exit 2) (X_ref09_Top_1_0 a b c) = ifB c
 (some (.ret, X_ref09_Top_2_1 b))
 (L_ref09_Top_2_0 R k w n a (IntKind.wrap .i64 (b + 1))) := by kernel_rfl
theorem X_ref09_Top_2_1_eq (R : Orc) (k : Nat) (w : Bool) (a : Int) : K_ref09_Top_2 R k w .ret (X_ref09_Top_2_1 a) = some ([.fz (.int .i64 a)], []) := by kernel_rfl
def C_level_Lattice_Is : ACode := codeOf 71 Try.f71
def A_level_Lattice_Is : AFunc := ⟨2, [(.tmp 4, .fz)], C_level_Lattice_Is, none⟩
theorem E_level_Lattice_Is (R : Orc) (k : Nat) (w : Bool) (a : FV) (b : Int) : callL R k w A_level_Lattice_Is [.fz (.pt 195 true a 0), .fz (.int .i64 b)] = ifB (decide (b ≥ 0))
 (onR (R N_level_Lattice_Size [.fz (.pt 195 true a 0)]) fun r0 => when (List.isEmpty r0.2 && allF [.fz] r0.1) (when (isInt .i64 (toF (List.getD r0.1 0 em))) (some ([.fz (.bool (decide (b < (toInt (toF (List.getD r0.1 0 em))))))], []))))
 (some ([.fz (.bool false)], [])) := by kernel_rfl
def C_level_Lattice_Top : ACode := codeOf 72 Try.f72
def A_level_Lattice_Top : AFunc := ⟨1, [(.tmp 2, .fz)], C_level_Lattice_Top, none⟩
theorem E_level_Lattice_Top (R : Orc) (k : Nat) (w : Bool) (a : FV) : callL R k w A_level_Lattice_Top [.fz (.pt 195 true a 0)] = when (isAg 195 a) (when (isInt .i64 (cell a 194)) (some ([.fz (.int .i64 (toInt (cell a 194)))], []))) := by kernel_rfl
def C_num_Text : ACode := codeOf 75 Try.f75
def A_num_Text_j1 : ACode := C_num_Text.at [1, 1, 1, 1, 0]
def A_num_Text : AFunc := ⟨1, [(.tmp 2, .fz)], C_num_Text, none⟩
def J_num_Text_1_0 (R : Orc) (k : Nat) (w : Bool) (a : ByteArray) (b c d : Int) := execL R k w [] A_num_Text_j1 Ans ⟨[(1, .ptr 4096 0 0), (3, .fz (.str a)), (4, .fz (.int .i64 b))], [(4095, .dead), (4096, .var 2 true (.fz (.ag [.int .i64 c, .int .i64 d])))]⟩ (kFin R [(.tmp 2, .fz)] [])
theorem E_num_Text (R : Orc) (k : Nat) (w : Bool) (a b : Int) : callL R k w A_num_Text [.fz (.ag [.int .i64 a, .int .i64 b])] = onR (R N_num_Is [.fz (.ag [.int .i64 a, .int .i64 b])]) fun r0 => when (List.isEmpty r0.2 && allF [.fz] r0.1) (when (isBool (toF (List.getD r0.1 0 em))) (ifB (!(toBool (toF (List.getD r0.1 0 em))))
 (some ([.fz (.str (⟨#[63]⟩ : ByteArray))], []))
 (ifB (decide (a < 0))
 (jump w (J_num_Text_1_0 R k w (⟨#[45]⟩ : ByteArray) (IntKind.wrap .i64 (0 - a)) a b))
 (jump w (J_num_Text_1_0 R k w (⟨#[]⟩ : ByteArray) a a b))))) := by kernel_rfl
theorem J_num_Text_1_0_eq (R : Orc) (k : Nat) (w : Bool) (a : ByteArray) (b c d : Int) : J_num_Text_1_0 R k w a b c d = onR (R N_num_pow [.fz (.int .i64 d)]) fun r1 => when (List.isEmpty r1.2 && allF [.fz] r1.1) (when (isInt .i64 (toF (List.getD r1.1 0 em))) (when (!decide ((toInt (toF (List.getD r1.1 0 em))) = 0)) (onR (R N_num_digits [.fz (.int .i64 (IntKind.wrap .i64 (Int.tdiv b (toInt (toF (List.getD r1.1 0 em))))))]) fun r2 => when (List.isEmpty r2.2 && allF [.fz] r2.1) (when (isStr (toF (List.getD r2.1 0 em))) (when (decide (ByteArray.size a + ByteArray.size (toStr (toF (List.getD r2.1 0 em))) ≤ 2 ^ 62)) (ifB (d == 0)
 (some ([.fz (.str (a ++ (toStr (toF (List.getD r2.1 0 em)))))], []))
 (when (!decide ((toInt (toF (List.getD r1.1 0 em))) = 0)) (onR (R N_num_digits [.fz (.int .i64 (Int.tmod b (toInt (toF (List.getD r1.1 0 em)))))]) fun r3 => when (List.isEmpty r3.2 && allF [.fz] r3.1) (when (isStr (toF (List.getD r3.1 0 em))) (when (decide (ByteArray.size (a ++ (toStr (toF (List.getD r2.1 0 em)))) + ByteArray.size (⟨#[46]⟩ : ByteArray) ≤ 2 ^ 62)) (onR (R N_strings_Repeat [.fz (.str (⟨#[48]⟩ : ByteArray)), .fz (.int .i64 (IntKind.wrap .i64 (d - (ByteArray.size (toStr (toF (List.getD r3.1 0 em))) : Int))))]) fun r4 => when (List.isEmpty r4.2 && allF [.fz] r4.1) (when (isStr (toF (List.getD r4.1 0 em))) (when (decide (ByteArray.size ((a ++ (toStr (toF (List.getD r2.1 0 em)))) ++ (⟨#[46]⟩ : ByteArray)) + ByteArray.size (toStr (toF (List.getD r4.1 0 em))) ≤ 2 ^ 62)) (when (decide (ByteArray.size (((a ++ (toStr (toF (List.getD r2.1 0 em)))) ++ (⟨#[46]⟩ : ByteArray)) ++ (toStr (toF (List.getD r4.1 0 em)))) + ByteArray.size (toStr (toF (List.getD r3.1 0 em))) ≤ 2 ^ 62)) (some ([.fz (.str ((((a ++ (toStr (toF (List.getD r2.1 0 em)))) ++ (⟨#[46]⟩ : ByteArray)) ++ (toStr (toF (List.getD r4.1 0 em)))) ++ (toStr (toF (List.getD r3.1 0 em)))))], [])))))))))))))))) := by kernel_rfl
def C_erase_hole : ACode := codeOf 78 Try.f78
def A_erase_hole : AFunc := ⟨1, [(.cell 2 8 true, .fz)], C_erase_hole, none⟩
theorem E_erase_hole (R : Orc) (k : Nat) (w : Bool) (a : FV) : callL R k w A_erase_hole [.fz (.pt 195 true a 0)] = onR (R N_level_Lattice_Top [.fz (.pt 195 true a 0)]) fun r0 => when (List.isEmpty r0.2 && allF [.fz] r0.1) (when (isInt .i64 (toF (List.getD r0.1 0 em))) (onR (R N_level_Lattice_Top [.fz (.pt 195 true a 0)]) fun r1 => when (List.isEmpty r1.2 && allF [.fz] r1.1) (when (isInt .i64 (toF (List.getD r1.1 0 em))) (some ([.fz (.ag [(.int .i64 (toInt (toF (List.getD r0.1 0 em)))), (.int .i64 (toInt (toF (List.getD r1.1 0 em)))), .int .i64 8, .int .i64 0, .int .i64 0, (.str (⟨#[]⟩ : ByteArray)), .sl [], .sl []])], []))))) := by kernel_rfl
def C_node_Array : ACode := codeOf 79 Try.f79
def A_node_Array : AFunc := ⟨3, [(.cell 6 8 true, .fz)], C_node_Array, none⟩
theorem E_node_Array (R : Orc) (k : Nat) (w : Bool) (a : FV) (b : Int) (c : List FV) : callL R k w A_node_Array [.fz (.pt 195 true a 0), .fz (.int .i64 b), .fz (.sl c)] = onR (R N_node_deep [.fz (.pt 195 true a 0), .fz (.int .i64 b), .fz (.sl c)]) fun r0 => when (List.isEmpty r0.2 && allF [.fz] r0.1) (when (isInt .i64 (toF (List.getD r0.1 0 em))) (when (List.all c (fits 8 true)) (when (decide (((0 : Nat) + List.length c) * 104 ≤ roomy) && decide ((0 : Nat) + List.length c ≤ roomy)) (some ([.fz (.ag [.int .i64 b, (.int .i64 (toInt (toF (List.getD r0.1 0 em)))), .int .i64 5, .int .i64 0, .int .i64 0, (.str (⟨#[]⟩ : ByteArray)), .sl c, .sl []])], []))))) := by kernel_rfl
def C_ref01_Join : ACode := codeOf 80 Try.f80
def A_ref01_Join_b1 : ACode := C_ref01_Join.at [1, 1, 0, 1, 0, 0, 1, 0, 0, 1, 0, 0, 1, 0, 0]
def A_ref01_Join_s1 : ACode := C_ref01_Join.at [1, 1, 0, 1, 0, 0, 1, 0, 0, 1, 0, 1]
def A_ref01_Join_j2 : ACode := C_ref01_Join.at [1, 1, 0, 1, 0, 0, 1, 0, 0, 1, 0]
def A_ref01_Join_s3 : ACode := C_ref01_Join.at [1, 1, 0, 1, 0, 0, 1, 1]
def A_ref01_Join_b2 : ACode := C_ref01_Join.at [1, 1, 0, 1, 0, 0]
def A_ref01_Join_s4 : ACode := C_ref01_Join.at [1, 1, 1]
def A_ref01_Join : AFunc := ⟨3, [(.tmp 6, .fz)], C_ref01_Join, none⟩
def K_ref01_Join_2 (R : Orc) (k : Nat) (w : Bool) : AExit → St → Option Ans := (kBlk 0 (kSeq R k w [] A_ref01_Join_s4 (kFin R [(.tmp 6, .fz)] [])))
def L_ref01_Join_2_0 (R : Orc) (k : Nat) (w : Bool) (n : Nat) (a : List FV) (b c d : Int) := loopL R k w [] [0, 1, 2, 7, 8] [7] A_ref01_Join_b2 n ⟨[(0, .fz (.sl a)), (1, .fz (.int .i64 b)), (2, .fz (.int .i64 c)), (7, .nils), (8, .fz (.int .i64 d))], [(4095, .dead)]⟩
def J_ref01_Join_2_0 (R : Orc) (k : Nat) (w : Bool) (n : Nat) (a : List FV) (b c d : Int) (e : Bool) := execL R k w [] A_ref01_Join_j2 (AExit × St) ⟨[(0, .fz (.sl a)), (1, .fz (.int .i64 b)), (2, .fz (.int .i64 c)), (7, .nils), (8, .fz (.int .i64 d)), (9, .fz (.bool e))], [(4095, .dead)]⟩ (kBlk 1 (kSeq R k w [] A_ref01_Join_s3 (kLoop R k w [] [0, 1, 2, 7, 8] [7] A_ref01_Join_b2 n)))
def X_ref01_Join_2_0 : St := ⟨[(7, .nils)], [(4095, .dead)]⟩
def K_ref01_Join_1 (R : Orc) (k : Nat) (w : Bool) (n : Nat) : AExit → St → Option (AExit × St) := (kBlk 2 (kSeq R k w [] A_ref01_Join_s1 (kBlk 1 (kSeq R k w [] A_ref01_Join_s3 (kLoop R k w [] [0, 1, 2, 7, 8] [7] A_ref01_Join_b2 n)))))
def L_ref01_Join_1_0 (R : Orc) (k : Nat) (w : Bool) (n : Nat) (a : List FV) (b c d : Int) (e : Bool) (f : Int) := loopL R k w [] [0, 1, 2, 7, 8, 9, 10] [0, 1, 2, 7, 8, 9] A_ref01_Join_b1 n ⟨[(0, .fz (.sl a)), (1, .fz (.int .i64 b)), (2, .fz (.int .i64 c)), (7, .nils), (8, .fz (.int .i64 d)), (9, .fz (.bool e)), (10, .fz (.int .i64 f))], [(4095, .dead)]⟩
def X_ref01_Join_1_0 (a : List FV) (b c d : Int) (e : Bool) : St := ⟨[(0, .fz (.sl a)), (1, .fz (.int .i64 b)), (2, .fz (.int .i64 c)), (7, .nils), (8, .fz (.int .i64 d)), (9, .fz (.bool e))], [(4095, .dead)]⟩
def L_ref01_Join_2_1 (R : Orc) (k : Nat) (w : Bool) (n : Nat) (a : List FV) (b c d : Int) (e : List FV) := loopL R k w [] [0, 1, 2, 7, 8] [7] A_ref01_Join_b2 n ⟨[(0, .fz (.sl a)), (1, .fz (.int .i64 b)), (2, .fz (.int .i64 c)), (7, .rw 4096), (8, .fz (.int .i64 d))], [(4095, .dead), (4096, .row 1 false e)]⟩
def J_ref01_Join_2_1 (R : Orc) (k : Nat) (w : Bool) (n : Nat) (a : List FV) (b c d : Int) (e : Bool) (f : List FV) := execL R k w [] A_ref01_Join_j2 (AExit × St) ⟨[(0, .fz (.sl a)), (1, .fz (.int .i64 b)), (2, .fz (.int .i64 c)), (7, .rw 4096), (8, .fz (.int .i64 d)), (9, .fz (.bool e))], [(4095, .dead), (4096, .row 1 false f)]⟩ (kBlk 1 (kSeq R k w [] A_ref01_Join_s3 (kLoop R k w [] [0, 1, 2, 7, 8] [7] A_ref01_Join_b2 n)))
def X_ref01_Join_2_1 (a : List FV) : St := ⟨[(7, .rw 4096)], [(4095, .dead), (4096, .row 1 false a)]⟩
def L_ref01_Join_1_1 (R : Orc) (k : Nat) (w : Bool) (n : Nat) (a : List FV) (b c d : Int) (e : Bool) (f : Int) (g : List FV) := loopL R k w [] [0, 1, 2, 7, 8, 9, 10] [0, 1, 2, 7, 8, 9] A_ref01_Join_b1 n ⟨[(0, .fz (.sl a)), (1, .fz (.int .i64 b)), (2, .fz (.int .i64 c)), (7, .rw 4096), (8, .fz (.int .i64 d)), (9, .fz (.bool e)), (10, .fz (.int .i64 f))], [(4095, .dead), (4096, .row 1 false g)]⟩
def X_ref01_Join_1_1 (a : List FV) (b c d : Int) (e : Bool) (f : List FV) : St := ⟨[(0, .fz (.sl a)), (1, .fz (.int .i64 b)), (2, .fz (.int .i64 c)), (7, .rw 4096), (8, .fz (.int .i64 d)), (9, .fz (.bool e))], [(4095, .dead), (4096, .row 1 false f)]⟩
theorem E_ref01_Join (R : Orc) (k : Nat) (w : Bool) (a : List FV) (b c : Int) : callL R k w A_ref01_Join [.fz (.sl a), .fz (.int .i64 b), .fz (.int .i64 c)] = onL (L_ref01_Join_2_0 R k w k a b c 0) (K_ref01_Join_2 R k w) := by kernel_rfl
theorem L_ref01_Join_2_0_eq (R : Orc) (k : Nat) (w : Bool) (n : Nat) (a : List FV) (b c d : Int) : L_ref01_Join_2_0 R k w (n + 1) a b c d = ifB (decide (d < (List.length a : Int)))
 (when ((decide (0 ≤ b)) && (decide (b < (List.length a : Int)))) (when (fits 1 false (List.getD a (Int.toNat b) nilp)) (when (isSl (List.getD a (Int.toNat b) nilp)) (when ((decide (0 ≤ d)) && (decide (d < (List.length (toSl (List.getD a (Int.toNat b) nilp)) : Int)))) (when (fits 1 false (List.getD (toSl (List.getD a (Int.toNat b) nilp)) (Int.toNat d) nilp)) (when (isBool (List.getD (toSl (List.getD a (Int.toNat b) nilp)) (Int.toNat d) nilp)) (ifB (toBool (List.getD (toSl (List.getD a (Int.toNat b) nilp)) (Int.toNat d) nilp))
 (when ((decide (0 ≤ c)) && (decide (c < (List.length a : Int)))) (when (fits 1 false (List.getD a (Int.toNat c) nilp)) (when (isSl (List.getD a (Int.toNat c) nilp)) (when ((decide (0 ≤ d)) && (decide (d < (List.length (toSl (List.getD a (Int.toNat c) nilp)) : Int)))) (when (fits 1 false (List.getD (toSl (List.getD a (Int.toNat c) nilp)) (Int.toNat d) nilp)) (when (isBool (List.getD (toSl (List.getD a (Int.toNat c) nilp)) (Int.toNat d) nilp)) (jump w (J_ref01_Join_2_0 R k w n a b c d (toBool (List.getD (toSl (List.getD a (Int.toNat c) nilp)) (Int.toNat d) nilp))))))))))
 (jump w (J_ref01_Join_2_0 R k w n a b c d false)))))))))
 (some ((.exit 0), X_ref01_Join_2_0)) := by kernel_rfl
theorem J_ref01_Join_2_0_eq (R : Orc) (k : Nat) (w : Bool) (n : Nat) (a : List FV) (b c d : Int) (e : Bool) : J_ref01_Join_2_0 R k w n a b c d e = onL (L_ref01_Join_1_0 R k w k a b c d e 0) (K_ref01_Join_1 R k w n) := by kernel_rfl
theorem X_ref01_Join_2_0_eq (R : Orc) (k : Nat) (w : Bool) : K_ref01_Join_2 R k w (.exit 0) (X_ref01_Join_2_0) = some ([.fz (.sl [])], []) := by kernel_rfl
theorem L_ref01_Join_1_0_eq (R : Orc) (k : Nat) (w : Bool) (n : Nat) (a : List FV) (b c d : Int) (e : Bool) (f : Int) : L_ref01_Join_1_0 R k w (n + 1) a b c d e f = ifB (decide (f < (List.length a : Int)))
 (when ((decide (0 ≤ b)) && (decide (b < (List.length a : Int)))) (when (fits 1 false (List.getD a (Int.toNat b) nilp)) (when (isSl (List.getD a (Int.toNat b) nilp)) (when ((decide (0 ≤ f)) && (decide (f < (List.length (toSl (List.getD a (Int.toNat b) nilp)) : Int)))) (when (fits 1 false (List.getD (toSl (List.getD a (Int.toNat b) nilp)) (Int.toNat f) nilp)) (when (isBool (List.getD (toSl (List.getD a (Int.toNat b) nilp)) (Int.toNat f) nilp)) (ifB (toBool (List.getD (toSl (List.getD a (Int.toNat b) nilp)) (Int.toNat f) nilp))
 (when ((decide (0 ≤ c)) && (decide (c < (List.length a : Int)))) (when (fits 1 false (List.getD a (Int.toNat c) nilp)) (when (isSl (List.getD a (Int.toNat c) nilp)) (when ((decide (0 ≤ f)) && (decide (f < (List.length (toSl (List.getD a (Int.toNat c) nilp)) : Int)))) (when (fits 1 false (List.getD (toSl (List.getD a (Int.toNat c) nilp)) (Int.toNat f) nilp)) (when (isBool (List.getD (toSl (List.getD a (Int.toNat c) nilp)) (Int.toNat f) nilp)) (ifB (toBool (List.getD (toSl (List.getD a (Int.toNat c) nilp)) (Int.toNat f) nilp))
 (when ((decide (0 ≤ d)) && (decide (d < (List.length a : Int)))) (when (fits 1 false (List.getD a (Int.toNat d) nilp)) (when (isSl (List.getD a (Int.toNat d) nilp)) (when ((decide (0 ≤ f)) && (decide (f < (List.length (toSl (List.getD a (Int.toNat d) nilp)) : Int)))) (when (fits 1 false (List.getD (toSl (List.getD a (Int.toNat d) nilp)) (Int.toNat f) nilp)) (when (isBool (List.getD (toSl (List.getD a (Int.toNat d) nilp)) (Int.toNat f) nilp)) (ifB (!(toBool (List.getD (toSl (List.getD a (Int.toNat d) nilp)) (Int.toNat f) nilp)))
 (L_ref01_Join_1_0 R k w n a b c d false (IntKind.wrap .i64 (f + 1)))
 (L_ref01_Join_1_0 R k w n a b c d e (IntKind.wrap .i64 (f + 1))))))))))
 (L_ref01_Join_1_0 R k w n a b c d e (IntKind.wrap .i64 (f + 1))))))))))
 (L_ref01_Join_1_0 R k w n a b c d e (IntKind.wrap .i64 (f + 1))))))))))
 (some ((.exit 2), X_ref01_Join_1_0 a b c d e)) := by kernel_rfl
theorem X_ref01_Join_1_0_eq (R : Orc) (k : Nat) (w : Bool) (n : Nat) (a : List FV) (b c d : Int) (e : Bool) : K_ref01_Join_1 R k w n (.exit 2) (X_ref01_Join_1_0 a b c d e) = ifB e
 (when (decide (((0 : Nat) + List.length [FV.int .i64 d]) * 8 ≤ roomy) && decide ((0 : Nat) + List.length [FV.int .i64 d] ≤ roomy)) (L_ref01_Join_2_1 R k w n a b c (IntKind.wrap .i64 (d + 1)) [.int .i64 d]))
 (L_ref01_Join_2_0 R k w n a b c (IntKind.wrap .i64 (d + 1))) := by kernel_rfl
theorem L_ref01_Join_2_1_eq (R : Orc) (k : Nat) (w : Bool) (n : Nat) (a : List FV) (b c d : Int) (e : List FV) : L_ref01_Join_2_1 R k w (n + 1) a b c d e = ifB (decide (d < (List.length a : Int)))
 (when ((decide (0 ≤ b)) && (decide (b < (List.length a : Int)))) (when (fits 1 false (List.getD a (Int.toNat b) nilp)) (when (isSl (List.getD a (Int.toNat b) nilp)) (when ((decide (0 ≤ d)) && (decide (d < (List.length (toSl (List.getD a (Int.toNat b) nilp)) : Int)))) (when (fits 1 false (List.getD (toSl (List.getD a (Int.toNat b) nilp)) (Int.toNat d) nilp)) (when (isBool (List.getD (toSl (List.getD a (Int.toNat b) nilp)) (Int.toNat d) nilp)) (ifB (toBool (List.getD (toSl (List.getD a (Int.toNat b) nilp)) (Int.toNat d) nilp))
 (when ((decide (0 ≤ c)) && (decide (c < (List.length a : Int)))) (when (fits 1 false (List.getD a (Int.toNat c) nilp)) (when (isSl (List.getD a (Int.toNat c) nilp)) (when ((decide (0 ≤ d)) && (decide (d < (List.length (toSl (List.getD a (Int.toNat c) nilp)) : Int)))) (when (fits 1 false (List.getD (toSl (List.getD a (Int.toNat c) nilp)) (Int.toNat d) nilp)) (when (isBool (List.getD (toSl (List.getD a (Int.toNat c) nilp)) (Int.toNat d) nilp)) (jump w (J_ref01_Join_2_1 R k w n a b c d (toBool (List.getD (toSl (List.getD a (Int.toNat c) nilp)) (Int.toNat d) nilp)) e))))))))
 (jump w (J_ref01_Join_2_1 R k w n a b c d false e)))))))))
 (some ((.exit 0), X_ref01_Join_2_1 e)) := by kernel_rfl
theorem J_ref01_Join_2_1_eq (R : Orc) (k : Nat) (w : Bool) (n : Nat) (a : List FV) (b c d : Int) (e : Bool) (f : List FV) : J_ref01_Join_2_1 R k w n a b c d e f = onL (L_ref01_Join_1_1 R k w k a b c d e 0 f) (K_ref01_Join_1 R k w n) := by kernel_rfl
theorem X_ref01_Join_2_1_eq (R : Orc) (k : Nat) (w : Bool) (a : List FV) : K_ref01_Join_2 R k w (.exit 0) (X_ref01_Join_2_1 a) = some ([.fz (.sl a)], []) := by kernel_rfl
theorem L_ref01_Join_1_1_eq (R : Orc) (k : Nat) (w : Bool) (n : Nat) (a : List FV) (b c d : Int) (e : Bool) (f : Int) (g : List FV) : L_ref01_Join_1_1 R k w (n + 1) a b c d e f g = ifB (decide (f < (List.length a : Int)))
 (when ((decide (0 ≤ b)) && (decide (b < (List.length a : Int)))) (when (fits 1 false (List.getD a (Int.toNat b) nilp)) (when (isSl (List.getD a (Int.toNat b) nilp)) (when ((decide (0 ≤ f)) && (decide (f < (List.length (toSl (List.getD a (Int.toNat b) nilp)) : Int)))) (when (fits 1 false (List.getD (toSl (List.getD a (Int.toNat b) nilp)) (Int.toNat f) nilp)) (when (isBool (List.getD (toSl (List.getD a (Int.toNat b) nilp)) (Int.toNat f) nilp)) (ifB (toBool (List.getD (toSl (List.getD a (Int.toNat b) nilp)) (Int.toNat f) nilp))
 (when ((decide (0 ≤ c)) && (decide (c < (List.length a : Int)))) (when (fits 1 false (List.getD a (Int.toNat c) nilp)) (when (isSl (List.getD a (Int.toNat c) nilp)) (when ((decide (0 ≤ f)) && (decide (f < (List.length (toSl (List.getD a (Int.toNat c) nilp)) : Int)))) (when (fits 1 false (List.getD (toSl (List.getD a (Int.toNat c) nilp)) (Int.toNat f) nilp)) (when (isBool (List.getD (toSl (List.getD a (Int.toNat c) nilp)) (Int.toNat f) nilp)) (ifB (toBool (List.getD (toSl (List.getD a (Int.toNat c) nilp)) (Int.toNat f) nilp))
 (when ((decide (0 ≤ d)) && (decide (d < (List.length a : Int)))) (when (fits 1 false (List.getD a (Int.toNat d) nilp)) (when (isSl (List.getD a (Int.toNat d) nilp)) (when ((decide (0 ≤ f)) && (decide (f < (List.length (toSl (List.getD a (Int.toNat d) nilp)) : Int)))) (when (fits 1 false (List.getD (toSl (List.getD a (Int.toNat d) nilp)) (Int.toNat f) nilp)) (when (isBool (List.getD (toSl (List.getD a (Int.toNat d) nilp)) (Int.toNat f) nilp)) (ifB (!(toBool (List.getD (toSl (List.getD a (Int.toNat d) nilp)) (Int.toNat f) nilp)))
 (L_ref01_Join_1_1 R k w n a b c d false (IntKind.wrap .i64 (f + 1)) g)
 (L_ref01_Join_1_1 R k w n a b c d e (IntKind.wrap .i64 (f + 1)) g))))))))
 (L_ref01_Join_1_1 R k w n a b c d e (IntKind.wrap .i64 (f + 1)) g))))))))
 (L_ref01_Join_1_1 R k w n a b c d e (IntKind.wrap .i64 (f + 1)) g))))))))
 (some ((.exit 2), X_ref01_Join_1_1 a b c d e g)) := by kernel_rfl
theorem X_ref01_Join_1_1_eq (R : Orc) (k : Nat) (w : Bool) (n : Nat) (a : List FV) (b c d : Int) (e : Bool) (f : List FV) : K_ref01_Join_1 R k w n (.exit 2) (X_ref01_Join_1_1 a b c d e f) = ifB e
 (when (decide ((List.length f + List.length [FV.int .i64 d]) * 8 ≤ roomy) && decide (List.length f + List.length [FV.int .i64 d] ≤ roomy)) (L_ref01_Join_2_1 R k w n a b c (IntKind.wrap .i64 (d + 1)) (f ++ [FV.int .i64 d])))
 (L_ref01_Join_2_1 R k w n a b c (IntKind.wrap .i64 (d + 1)) f) := by kernel_rfl
def C_level_Lattice_Size : ACode := codeOf 81 Try.f81
def A_level_Lattice_Size : AFunc := ⟨1, [(.tmp 2, .fz)], C_level_Lattice_Size, none⟩
theorem E_level_Lattice_Size (R : Orc) (k : Nat) (w : Bool) (a : FV) : callL R k w A_level_Lattice_Size [.fz (.pt 195 true a 0)] = when (isAg 195 a) (when (isSl (cell a 0)) (some ([.fz (.int .i64 (List.length (toSl (cell a 0)) : Int))], []))) := by kernel_rfl
def C_num_Is : ACode := codeOf 83 Try.f83
def A_num_Is_j1 : ACode := C_num_Is.at [1, 1, 0]
def A_num_Is : AFunc := ⟨1, [(.tmp 2, .fz)], C_num_Is, none⟩
def J_num_Is_1_0 (R : Orc) (k : Nat) (w : Bool) (a b : Int) := execL R k w [] A_num_Is_j1 Ans ⟨[(1, .ptr 4096 0 0)], [(4095, .dead), (4096, .var 2 true (.fz (.ag [.int .i64 a, .int .i64 b])))]⟩ (kFin R [(.tmp 2, .fz)] [])
theorem E_num_Is (R : Orc) (k : Nat) (w : Bool) (a b : Int) : callL R k w A_num_Is [.fz (.ag [.int .i64 a, .int .i64 b])] = ifB (decide (b < 0))
 (some ([.fz (.bool false)], []))
 (ifB (decide (b > 9))
 (some ([.fz (.bool false)], []))
 (ifB (decide (a ≤ (-1000000000000000)))
 (some ([.fz (.bool false)], []))
 (ifB (decide (a ≥ 1000000000000000))
 (some ([.fz (.bool false)], []))
 (jump w (J_num_Is_1_0 R k w a b))))) := by kernel_rfl
theorem J_num_Is_1_0_eq (R : Orc) (k : Nat) (w : Bool) (a b : Int) : J_num_Is_1_0 R k w a b = ifB (b == 0)
 (some ([.fz (.bool true)], []))
 (some ([.fz (.bool ((Int.tmod a 10) != 0))], [])) := by kernel_rfl
def C_num_pow : ACode := codeOf 84 Try.f84
def A_num_pow_b1 : ACode := C_num_pow.at [1, 1, 0, 1, 0, 0]
def A_num_pow_s1 : ACode := C_num_pow.at [1, 1, 1]
def A_num_pow : AFunc := ⟨1, [(.tmp 2, .fz)], C_num_pow, none⟩
def K_num_pow_1 (R : Orc) (k : Nat) (w : Bool) : AExit → St → Option Ans := (kBlk 0 (kSeq R k w [] A_num_pow_s1 (kFin R [(.tmp 2, .fz)] [])))
def L_num_pow_1_0 (R : Orc) (k : Nat) (w : Bool) (n : Nat) (a b c : Int) := loopL R k w [] [3, 4, 5] [3] A_num_pow_b1 n ⟨[(3, .fz (.int .i64 a)), (4, .fz (.int .i64 b)), (5, .fz (.int .i64 c))], [(4095, .dead)]⟩
def X_num_pow_1_0 (a : Int) : St := ⟨[(3, .fz (.int .i64 a))], [(4095, .dead)]⟩
theorem E_num_pow (R : Orc) (k : Nat) (w : Bool) (a : Int) : callL R k w A_num_pow [.fz (.int .i64 a)] = onL (L_num_pow_1_0 R k w k 1 a 0) (K_num_pow_1 R k w) := by kernel_rfl
theorem L_num_pow_1_0_eq (R : Orc) (k : Nat) (w : Bool) (n : Nat) (a b c : Int) : L_num_pow_1_0 R k w (n + 1) a b c = ifB (decide (c < b))
 (L_num_pow_1_0 R k w n (IntKind.wrap .i64 (a * 10)) b (IntKind.wrap .i64 (c + 1)))
 (some ((.exit 0), X_num_pow_1_0 a)) := by kernel_rfl
theorem X_num_pow_1_0_eq (R : Orc) (k : Nat) (w : Bool) (a : Int) : K_num_pow_1 R k w (.exit 0) (X_num_pow_1_0 a) = some ([.fz (.int .i64 a)], []) := by kernel_rfl
def C_num_digits : ACode := codeOf 85 Try.f85
def A_num_digits_b1 : ACode := C_num_digits.at [1, 1, 1, 0, 0]
def A_num_digits : AFunc := ⟨1, [(.tmp 2, .fz)], C_num_digits, none⟩
def K_num_digits_1 (R : Orc) (k : Nat) (w : Bool) : AExit → St → Option Ans := (kBlk 0 (kFin R [(.tmp 2, .fz)] []))
def L_num_digits_1_0 (R : Orc) (k : Nat) (w : Bool) (n : Nat) (a b : Int) (c : FV) := loopL R k w [] [0, 3, 4] [2] A_num_digits_b1 n ⟨[(0, .fz (.int .i64 a)), (3, .ptr 4096 0 0), (4, .fz (.int .i64 b))], [(4095, .dead), (4096, .var 20 true (.fz c))]⟩
def X_num_digits_1_0 (a : ByteArray) : St := ⟨[(2, .fz (.str a))], [(4095, .dead)]⟩
theorem E_num_digits (R : Orc) (k : Nat) (w : Bool) (a : Int) : callL R k w A_num_digits [.fz (.int .i64 a)] = onL (L_num_digits_1_0 R k w k a 20 (.ag [.int .u8 0, .int .u8 0, .int .u8 0, .int .u8 0, .int .u8 0, .int .u8 0, .int .u8 0, .int .u8 0, .int .u8 0, .int .u8 0, .int .u8 0, .int .u8 0, .int .u8 0, .int .u8 0, .int .u8 0, .int .u8 0, .int .u8 0, .int .u8 0, .int .u8 0, .int .u8 0])) (K_num_digits_1 R k w) := by kernel_rfl
theorem L_num_digits_1_0_eq (R : Orc) (k : Nat) (w : Bool) (n : Nat) (a b : Int) (d : FV) : L_num_digits_1_0 R k w (n + 1) a b d = when ((decide (0 ≤ (Int.tmod a 10))) && (decide ((Int.tmod a 10) < (ByteArray.size (⟨#[48, 49, 50, 51, 52, 53, 54, 55, 56, 57]⟩ : ByteArray) : Int)))) (when (decide (0 ≤ (IntKind.wrap .i64 (b - 1))) && decide ((IntKind.wrap .i64 (b - 1)) < 20)) (when ((isAg 20 d) && true) (when (Nat.blt (0 + ((Int.toNat (IntKind.wrap .i64 (b - 1))) * 1)) 20) (ifB ((IntKind.wrap .i64 (Int.tdiv a 10)) == 0)
 (when (decide (0 ≤ (IntKind.wrap .i64 (b - 1))) && decide ((IntKind.wrap .i64 (b - 1)) ≤ 20)) (when (List.all (toAg (.ag (List.set (toAg d) (0 + ((Int.toNat (IntKind.wrap .i64 (b - 1))) * 1)) (.int .u8 (((Array.getD (ByteArray.data (⟨#[48, 49, 50, 51, 52, 53, 54, 55, 56, 57]⟩ : ByteArray)) (Int.toNat (Int.tmod a 10)) 0).toNat : Nat) : Int))))) fun c => fits 1 false c) (when (List.all (List.drop (Int.toNat (IntKind.wrap .i64 (b - 1))) (toAg (.ag (List.set (toAg d) (0 + ((Int.toNat (IntKind.wrap .i64 (b - 1))) * 1)) (.int .u8 (((Array.getD (ByteArray.data (⟨#[48, 49, 50, 51, 52, 53, 54, 55, 56, 57]⟩ : ByteArray)) (Int.toNat (Int.tmod a 10)) 0).toNat : Nat) : Int)))))) (fits 1 false)) (when (List.all (List.drop (Int.toNat (IntKind.wrap .i64 (b - 1))) (toAg (.ag (List.set (toAg d) (0 + ((Int.toNat (IntKind.wrap .i64 (b - 1))) * 1)) (.int .u8 (((Array.getD (ByteArray.data (⟨#[48, 49, 50, 51, 52, 53, 54, 55, 56, 57]⟩ : ByteArray)) (Int.toNat (Int.tmod a 10)) 0).toNat : Nat) : Int)))))) (isInt .u8)) (some (.ret, X_num_digits_1_0 (⟨(List.map (fun e => UInt8.ofNat (toInt e).toNat) (List.drop (Int.toNat (IntKind.wrap .i64 (b - 1))) (toAg (.ag (List.set (toAg d) (0 + ((Int.toNat (IntKind.wrap .i64 (b - 1))) * 1)) (.int .u8 (((Array.getD (ByteArray.data (⟨#[48, 49, 50, 51, 52, 53, 54, 55, 56, 57]⟩ : ByteArray)) (Int.toNat (Int.tmod a 10)) 0).toNat : Nat) : Int))))))).toArray⟩ : ByteArray)))))))
 (L_num_digits_1_0 R k w n (IntKind.wrap .i64 (Int.tdiv a 10)) (IntKind.wrap .i64 (b - 1)) (.ag (List.set (toAg d) (0 + ((Int.toNat (IntKind.wrap .i64 (b - 1))) * 1)) (.int .u8 (((Array.getD (ByteArray.data (⟨#[48, 49, 50, 51, 52, 53, 54, 55, 56, 57]⟩ : ByteArray)) (Int.toNat (Int.tmod a 10)) 0).toNat : Nat) : Int))))))))) := by kernel_rfl
theorem X_num_digits_1_0_eq (R : Orc) (k : Nat) (w : Bool) (a : ByteArray) : K_num_digits_1 R k w .ret (X_num_digits_1_0 a) = some ([.fz (.str a)], []) := by kernel_rfl
def C_envelope_Key : ACode := codeOf 87 Try.f87
def A_envelope_Key : AFunc := ⟨1, [(.tmp 2, .fz)], C_envelope_Key, none⟩
theorem E_envelope_Key (R : Orc) (k : Nat) (w : Bool) (a : ByteArray) : callL R k w A_envelope_Key [.fz (.str a)] = onR (R N_strings_HasPrefix [.fz (.str a), .fz (.str (⟨#[35]⟩ : ByteArray))]) fun r0 => when (List.isEmpty r0.2 && allF [.fz] r0.1) (when (isBool (toF (List.getD r0.1 0 em))) (ifB (toBool (toF (List.getD r0.1 0 em)))
 (when (decide (ByteArray.size (⟨#[35]⟩ : ByteArray) + ByteArray.size a ≤ 2 ^ 62)) (some ([.fz (.str ((⟨#[35]⟩ : ByteArray) ++ a))], [])))
 (some ([.fz (.str a)], [])))) := by kernel_rfl
def C_utf_Valid : ACode := codeOf 88 Try.f88
def A_utf_Valid_b1 : ACode := C_utf_Valid.at [1, 0, 0, 0]
def A_utf_Valid_s1 : ACode := C_utf_Valid.at [1, 1]
def A_utf_Valid : AFunc := ⟨1, [(.tmp 2, .fz)], C_utf_Valid, none⟩
def K_utf_Valid_1 (R : Orc) (k : Nat) (w : Bool) : AExit → St → Option Ans := (kBlk 0 (kSeq R k w [] A_utf_Valid_s1 (kFin R [(.tmp 2, .fz)] [])))
def L_utf_Valid_1_0 (R : Orc) (k : Nat) (w : Bool) (n : Nat) (a : ByteArray) := loopL R k w [] [0] [2] A_utf_Valid_b1 n ⟨[(0, .fz (.str a))], [(4095, .dead)]⟩
def X_utf_Valid_1_0 (a : Bool) : St := ⟨[(2, .fz (.bool a))], [(4095, .dead)]⟩
def X_utf_Valid_1_1 : St := ⟨[], [(4095, .dead)]⟩
theorem E_utf_Valid (R : Orc) (k : Nat) (w : Bool) (a : ByteArray) : callL R k w A_utf_Valid [.fz (.str a)] = onL (L_utf_Valid_1_0 R k w k a) (K_utf_Valid_1 R k w) := by kernel_rfl
theorem L_utf_Valid_1_0_eq (R : Orc) (k : Nat) (w : Bool) (n : Nat) (a : ByteArray) : L_utf_Valid_1_0 R k w (n + 1) a = ifB (!(ByteArray.toList a == ByteArray.toList (⟨#[]⟩ : ByteArray)))
 (onR (R N_utf_size [.fz (.str a)]) fun r0 => when (List.isEmpty r0.2 && allF [.fz] r0.1) (when (isInt .i64 (toF (List.getD r0.1 0 em))) (ifB ((toInt (toF (List.getD r0.1 0 em))) == 0)
 (some (.ret, X_utf_Valid_1_0 false))
 (when (decide (0 ≤ (ByteArray.size a : Int)) && decide ((ByteArray.size a : Int) ≤ (ByteArray.size a : Int))) (when (decide (0 ≤ (toInt (toF (List.getD r0.1 0 em)))) && decide ((toInt (toF (List.getD r0.1 0 em))) ≤ (ByteArray.size a : Int))) (L_utf_Valid_1_0 R k w n (ByteArray.extract a (Int.toNat (toInt (toF (List.getD r0.1 0 em)))) (Int.toNat (ByteArray.size a : Int)))))))))
 (some ((.exit 0), X_utf_Valid_1_1)) := by kernel_rfl
theorem X_utf_Valid_1_0_eq (R : Orc) (k : Nat) (w a : Bool) : K_utf_Valid_1 R k w .ret (X_utf_Valid_1_0 a) = some ([.fz (.bool a)], []) := by kernel_rfl
theorem X_utf_Valid_1_1_eq (R : Orc) (k : Nat) (w : Bool) : K_utf_Valid_1 R k w (.exit 0) (X_utf_Valid_1_1) = some ([.fz (.bool true)], []) := by kernel_rfl
def C_utf_quoted : ACode := codeOf 89 Try.f89
def A_utf_quoted : AFunc := ⟨1, [(.tmp 2, .fz)], C_utf_quoted, none⟩
theorem E_utf_quoted (R : Orc) (k : Nat) (w : Bool) (a : Int) : callL R k w A_utf_quoted [.fz (.int .i32 a)] = ifB (a == 34)
 (some ([.fz (.str (⟨#[92, 34]⟩ : ByteArray))], []))
 (ifB (a == 92)
 (some ([.fz (.str (⟨#[92, 92]⟩ : ByteArray))], []))
 (ifB (a == 8)
 (some ([.fz (.str (⟨#[92, 98]⟩ : ByteArray))], []))
 (ifB (a == 9)
 (some ([.fz (.str (⟨#[92, 116]⟩ : ByteArray))], []))
 (ifB (a == 10)
 (some ([.fz (.str (⟨#[92, 110]⟩ : ByteArray))], []))
 (ifB (a == 12)
 (some ([.fz (.str (⟨#[92, 102]⟩ : ByteArray))], []))
 (ifB (a == 13)
 (some ([.fz (.str (⟨#[92, 114]⟩ : ByteArray))], []))
 (ifB (decide (a < 32))
 (when (decide (0 ≤ (IntKind.wrap .i32 ((Int.fdiv a (2 ^ (min 4 (IntKind.bits .i32)))) + 1))) && decide ((IntKind.wrap .i32 ((Int.fdiv a (2 ^ (min 4 (IntKind.bits .i32)))) + 1)) ≤ (ByteArray.size (⟨#[48, 49, 50, 51, 52, 53, 54, 55, 56, 57, 97, 98, 99, 100, 101, 102]⟩ : ByteArray) : Int))) (when (decide (0 ≤ (Int.fdiv a (2 ^ (min 4 (IntKind.bits .i32))))) && decide ((Int.fdiv a (2 ^ (min 4 (IntKind.bits .i32)))) ≤ (IntKind.wrap .i32 ((Int.fdiv a (2 ^ (min 4 (IntKind.bits .i32)))) + 1)))) (when (decide (ByteArray.size (⟨#[92, 117, 48, 48]⟩ : ByteArray) + ByteArray.size (ByteArray.extract (⟨#[48, 49, 50, 51, 52, 53, 54, 55, 56, 57, 97, 98, 99, 100, 101, 102]⟩ : ByteArray) (Int.toNat (Int.fdiv a (2 ^ (min 4 (IntKind.bits .i32))))) (Int.toNat (IntKind.wrap .i32 ((Int.fdiv a (2 ^ (min 4 (IntKind.bits .i32)))) + 1)))) ≤ 2 ^ 62)) (when (decide (0 ≤ (IntKind.wrap .i32 ((IntKind.wrap .i32 ((BitVec.ofInt (IntKind.bits .i32) a &&& BitVec.ofInt (IntKind.bits .i32) 15).toNat : Nat)) + 1))) && decide ((IntKind.wrap .i32 ((IntKind.wrap .i32 ((BitVec.ofInt (IntKind.bits .i32) a &&& BitVec.ofInt (IntKind.bits .i32) 15).toNat : Nat)) + 1)) ≤ (ByteArray.size (⟨#[48, 49, 50, 51, 52, 53, 54, 55, 56, 57, 97, 98, 99, 100, 101, 102]⟩ : ByteArray) : Int))) (when (decide (0 ≤ (IntKind.wrap .i32 ((BitVec.ofInt (IntKind.bits .i32) a &&& BitVec.ofInt (IntKind.bits .i32) 15).toNat : Nat))) && decide ((IntKind.wrap .i32 ((BitVec.ofInt (IntKind.bits .i32) a &&& BitVec.ofInt (IntKind.bits .i32) 15).toNat : Nat)) ≤ (IntKind.wrap .i32 ((IntKind.wrap .i32 ((BitVec.ofInt (IntKind.bits .i32) a &&& BitVec.ofInt (IntKind.bits .i32) 15).toNat : Nat)) + 1)))) (when (decide (ByteArray.size ((⟨#[92, 117, 48, 48]⟩ : ByteArray) ++ (ByteArray.extract (⟨#[48, 49, 50, 51, 52, 53, 54, 55, 56, 57, 97, 98, 99, 100, 101, 102]⟩ : ByteArray) (Int.toNat (Int.fdiv a (2 ^ (min 4 (IntKind.bits .i32))))) (Int.toNat (IntKind.wrap .i32 ((Int.fdiv a (2 ^ (min 4 (IntKind.bits .i32)))) + 1))))) + ByteArray.size (ByteArray.extract (⟨#[48, 49, 50, 51, 52, 53, 54, 55, 56, 57, 97, 98, 99, 100, 101, 102]⟩ : ByteArray) (Int.toNat (IntKind.wrap .i32 ((BitVec.ofInt (IntKind.bits .i32) a &&& BitVec.ofInt (IntKind.bits .i32) 15).toNat : Nat))) (Int.toNat (IntKind.wrap .i32 ((IntKind.wrap .i32 ((BitVec.ofInt (IntKind.bits .i32) a &&& BitVec.ofInt (IntKind.bits .i32) 15).toNat : Nat)) + 1)))) ≤ 2 ^ 62)) (some ([.fz (.str (((⟨#[92, 117, 48, 48]⟩ : ByteArray) ++ (ByteArray.extract (⟨#[48, 49, 50, 51, 52, 53, 54, 55, 56, 57, 97, 98, 99, 100, 101, 102]⟩ : ByteArray) (Int.toNat (Int.fdiv a (2 ^ (min 4 (IntKind.bits .i32))))) (Int.toNat (IntKind.wrap .i32 ((Int.fdiv a (2 ^ (min 4 (IntKind.bits .i32)))) + 1))))) ++ (ByteArray.extract (⟨#[48, 49, 50, 51, 52, 53, 54, 55, 56, 57, 97, 98, 99, 100, 101, 102]⟩ : ByteArray) (Int.toNat (IntKind.wrap .i32 ((BitVec.ofInt (IntKind.bits .i32) a &&& BitVec.ofInt (IntKind.bits .i32) 15).toNat : Nat))) (Int.toNat (IntKind.wrap .i32 ((IntKind.wrap .i32 ((BitVec.ofInt (IntKind.bits .i32) a &&& BitVec.ofInt (IntKind.bits .i32) 15).toNat : Nat)) + 1))))))], []))))))))
 (some ([.fz (.str (Utf8.encode a))], []))))))))) := by kernel_rfl
def C_strings_HasPrefix : ACode := codeOf 92 Try.f92
def A_strings_HasPrefix : AFunc := ⟨2, [(.tmp 4, .fz)], C_strings_HasPrefix, none⟩
theorem E_strings_HasPrefix (R : Orc) (k : Nat) (w : Bool) (a b : ByteArray) : callL R k w A_strings_HasPrefix [.fz (.str a), .fz (.str b)] = onR (R N_internal_stringslite_HasPrefix [.fz (.str a), .fz (.str b)]) fun r0 => when (List.isEmpty r0.2 && allF [.fz] r0.1) (when (isBool (toF (List.getD r0.1 0 em))) (some ([.fz (.bool (toBool (toF (List.getD r0.1 0 em))))], []))) := by kernel_rfl
def C_utf_size : ACode := codeOf 94 Try.f94
def A_utf_size_j1 : ACode := C_utf_size.at [1, 1, 0, 0, 1, 1, 1, 0, 1, 0, 1, 0, 1, 1, 0]
def A_utf_size_j2 : ACode := C_utf_size.at [1, 1, 0, 0, 1, 1, 1, 0, 1, 0, 1, 0]
def A_utf_size_j3 : ACode := C_utf_size.at [1, 1, 0, 0, 1, 1, 1, 0, 1, 1, 0, 1, 0, 1, 0, 1, 1, 0]
def A_utf_size_j4 : ACode := C_utf_size.at [1, 1, 0, 0, 1, 1, 1, 0, 1, 1, 0, 1, 0, 1, 0]
def A_utf_size_s5 : ACode := C_utf_size.at [1, 1, 0, 0, 1, 1, 1, 0, 1, 1, 0, 1, 1]
def A_utf_size_j6 : ACode := C_utf_size.at [1, 1, 0, 0, 1, 1, 1, 0, 1, 1, 0]
def A_utf_size_s7 : ACode := C_utf_size.at [1, 1, 0, 0, 1, 1, 1, 0, 1, 1]
def A_utf_size_j8 : ACode := C_utf_size.at [1, 1, 0, 0, 1, 1, 1, 0]
def A_utf_size_s9 : ACode := C_utf_size.at [1, 1, 1]
def A_utf_size : AFunc := ⟨1, [(.tmp 2, .fz)], C_utf_size, none⟩
def J_utf_size_8_0 (R : Orc) (k : Nat) (w : Bool) (a : ByteArray) (b : Int) (c : Bool) := execL R k w [] A_utf_size_j8 Ans ⟨[(0, .fz (.str a)), (3, .fz (.int .u8 b)), (9, .fz (.bool c))], [(4095, .dead)]⟩ (kBlk 0 (kSeq R k w [] A_utf_size_s9 (kFin R [(.tmp 2, .fz)] [])))
def J_utf_size_2_0 (R : Orc) (k : Nat) (w : Bool) (a : ByteArray) (b : Int) (c : Bool) := execL R k w [] A_utf_size_j2 Ans ⟨[(0, .fz (.str a)), (3, .fz (.int .u8 b)), (20, .fz (.bool c))], [(4095, .dead)]⟩ (kSeq R k w [] A_utf_size_s7 (kBlk 0 (kSeq R k w [] A_utf_size_s9 (kFin R [(.tmp 2, .fz)] []))))
def J_utf_size_6_0 (R : Orc) (k : Nat) (w : Bool) (a : ByteArray) (b : Int) (c : Bool) := execL R k w [] A_utf_size_j6 Ans ⟨[(0, .fz (.str a)), (3, .fz (.int .u8 b)), (20, .fz (.bool c))], [(4095, .dead)]⟩ (kBlk 0 (kSeq R k w [] A_utf_size_s9 (kFin R [(.tmp 2, .fz)] [])))
def J_utf_size_1_0 (R : Orc) (k : Nat) (w : Bool) (a : ByteArray) (b : Int) (c : Bool) := execL R k w [] A_utf_size_j1 Ans ⟨[(0, .fz (.str a)), (3, .fz (.int .u8 b)), (20, .fz (.bool c))], [(4095, .dead)]⟩ (kSeq R k w [] A_utf_size_s7 (kBlk 0 (kSeq R k w [] A_utf_size_s9 (kFin R [(.tmp 2, .fz)] []))))
def J_utf_size_4_0 (R : Orc) (k : Nat) (w : Bool) (a : ByteArray) (b : Int) (c : Bool) := execL R k w [] A_utf_size_j4 Ans ⟨[(0, .fz (.str a)), (3, .fz (.int .u8 b)), (47, .fz (.bool c))], [(4095, .dead)]⟩ (kSeq R k w [] A_utf_size_s5 (kBlk 0 (kSeq R k w [] A_utf_size_s9 (kFin R [(.tmp 2, .fz)] []))))
def J_utf_size_3_0 (R : Orc) (k : Nat) (w : Bool) (a : ByteArray) (b : Int) (c : Bool) := execL R k w [] A_utf_size_j3 Ans ⟨[(0, .fz (.str a)), (3, .fz (.int .u8 b)), (47, .fz (.bool c))], [(4095, .dead)]⟩ (kSeq R k w [] A_utf_size_s5 (kBlk 0 (kSeq R k w [] A_utf_size_s9 (kFin R [(.tmp 2, .fz)] []))))
theorem E_utf_size (R : Orc) (k : Nat) (w : Bool) (a : ByteArray) : callL R k w A_utf_size [.fz (.str a)] = when (decide (0 < (ByteArray.size a : Int))) (ifB (decide ((((Array.getD (ByteArray.data a) 0 0).toNat : Nat) : Int) < 128))
 (some ([.fz (.int .i64 1)], []))
 (ifB (decide ((((Array.getD (ByteArray.data a) 0 0).toNat : Nat) : Int) ≥ 194))
 (ifB (decide ((((Array.getD (ByteArray.data a) 0 0).toNat : Nat) : Int) ≤ 223))
 (onR (R N_utf_tail [.fz (.str a), .fz (.int .i64 1), .fz (.int .u8 128), .fz (.int .u8 191)]) fun r0 => when (List.isEmpty r0.2 && allF [.fz] r0.1) (when (isBool (toF (List.getD r0.1 0 em))) (jump w (J_utf_size_8_0 R k w a (((Array.getD (ByteArray.data a) 0 0).toNat : Nat) : Int) (toBool (toF (List.getD r0.1 0 em)))))))
 (jump w (J_utf_size_8_0 R k w a (((Array.getD (ByteArray.data a) 0 0).toNat : Nat) : Int) false)))
 (jump w (J_utf_size_8_0 R k w a (((Array.getD (ByteArray.data a) 0 0).toNat : Nat) : Int) false)))) := by kernel_rfl
theorem J_utf_size_8_0_eq (R : Orc) (k : Nat) (w : Bool) (a : ByteArray) (b : Int) (c : Bool) : J_utf_size_8_0 R k w a b c = ifB c
 (some ([.fz (.int .i64 2)], []))
 (ifB (b == 224)
 (onR (R N_utf_tail [.fz (.str a), .fz (.int .i64 2), .fz (.int .u8 160), .fz (.int .u8 191)]) fun r1 => when (List.isEmpty r1.2 && allF [.fz] r1.1) (when (isBool (toF (List.getD r1.1 0 em))) (jump w (J_utf_size_2_0 R k w a b (toBool (toF (List.getD r1.1 0 em)))))))
 (jump w (J_utf_size_2_0 R k w a b false))) := by kernel_rfl
theorem J_utf_size_2_0_eq (R : Orc) (k : Nat) (w : Bool) (a : ByteArray) (b : Int) (c : Bool) : J_utf_size_2_0 R k w a b c = ifB c
 (jump w (J_utf_size_6_0 R k w a b true))
 (ifB (decide (b ≥ 225))
 (ifB (decide (b ≤ 239))
 (ifB (b != 237)
 (onR (R N_utf_tail [.fz (.str a), .fz (.int .i64 2), .fz (.int .u8 128), .fz (.int .u8 191)]) fun r2 => when (List.isEmpty r2.2 && allF [.fz] r2.1) (when (isBool (toF (List.getD r2.1 0 em))) (jump w (J_utf_size_1_0 R k w a b (toBool (toF (List.getD r2.1 0 em)))))))
 (jump w (J_utf_size_1_0 R k w a b false)))
 (jump w (J_utf_size_1_0 R k w a b false)))
 (jump w (J_utf_size_1_0 R k w a b false))) := by kernel_rfl
theorem J_utf_size_6_0_eq (R : Orc) (k : Nat) (w : Bool) (a : ByteArray) (b : Int) (c : Bool) : J_utf_size_6_0 R k w a b c = ifB c
 (some ([.fz (.int .i64 3)], []))
 (ifB (b == 240)
 (onR (R N_utf_tail [.fz (.str a), .fz (.int .i64 3), .fz (.int .u8 144), .fz (.int .u8 191)]) fun r3 => when (List.isEmpty r3.2 && allF [.fz] r3.1) (when (isBool (toF (List.getD r3.1 0 em))) (jump w (J_utf_size_4_0 R k w a b (toBool (toF (List.getD r3.1 0 em)))))))
 (jump w (J_utf_size_4_0 R k w a b false))) := by kernel_rfl
theorem J_utf_size_1_0_eq (R : Orc) (k : Nat) (w : Bool) (a : ByteArray) (b : Int) (c : Bool) : J_utf_size_1_0 R k w a b c = ifB c
 (jump w (J_utf_size_6_0 R k w a b true))
 (ifB (b == 237)
 (onR (R N_utf_tail [.fz (.str a), .fz (.int .i64 2), .fz (.int .u8 128), .fz (.int .u8 159)]) fun r4 => when (List.isEmpty r4.2 && allF [.fz] r4.1) (when (isBool (toF (List.getD r4.1 0 em))) (jump w (J_utf_size_6_0 R k w a b (toBool (toF (List.getD r4.1 0 em)))))))
 (jump w (J_utf_size_6_0 R k w a b false))) := by kernel_rfl
theorem J_utf_size_4_0_eq (R : Orc) (k : Nat) (w : Bool) (a : ByteArray) (b : Int) (c : Bool) : J_utf_size_4_0 R k w a b c = ifB c
 (some ([.fz (.int .i64 4)], []))
 (ifB (decide (b ≥ 241))
 (ifB (decide (b ≤ 243))
 (onR (R N_utf_tail [.fz (.str a), .fz (.int .i64 3), .fz (.int .u8 128), .fz (.int .u8 191)]) fun r5 => when (List.isEmpty r5.2 && allF [.fz] r5.1) (when (isBool (toF (List.getD r5.1 0 em))) (jump w (J_utf_size_3_0 R k w a b (toBool (toF (List.getD r5.1 0 em)))))))
 (jump w (J_utf_size_3_0 R k w a b false)))
 (jump w (J_utf_size_3_0 R k w a b false))) := by kernel_rfl
theorem J_utf_size_3_0_eq (R : Orc) (k : Nat) (w : Bool) (a : ByteArray) (b : Int) (c : Bool) : J_utf_size_3_0 R k w a b c = ifB c
 (some ([.fz (.int .i64 4)], []))
 (ifB (b == 244)
 (onR (R N_utf_tail [.fz (.str a), .fz (.int .i64 3), .fz (.int .u8 128), .fz (.int .u8 143)]) fun r6 => when (List.isEmpty r6.2 && allF [.fz] r6.1) (when (isBool (toF (List.getD r6.1 0 em))) (ifB (toBool (toF (List.getD r6.1 0 em)))
 (some ([.fz (.int .i64 4)], []))
 (some ([.fz (.int .i64 0)], [])))))
 (some ([.fz (.int .i64 0)], []))) := by kernel_rfl
def C_internal_stringslite_HasPrefix : ACode := codeOf 97 Try.f97
def A_internal_stringslite_HasPrefix : AFunc := ⟨2, [(.tmp 4, .fz)], C_internal_stringslite_HasPrefix, none⟩
theorem E_internal_stringslite_HasPrefix (R : Orc) (k : Nat) (w : Bool) (a b : ByteArray) : callL R k w A_internal_stringslite_HasPrefix [.fz (.str a), .fz (.str b)] = ifB (decide ((ByteArray.size a : Int) ≥ (ByteArray.size b : Int)))
 (when (decide (0 ≤ (ByteArray.size b : Int)) && decide ((ByteArray.size b : Int) ≤ (ByteArray.size a : Int))) (when (decide (0 ≤ 0) && decide (0 ≤ (ByteArray.size b : Int))) (some ([.fz (.bool (ByteArray.toList (ByteArray.extract a 0 (Int.toNat (ByteArray.size b : Int))) == ByteArray.toList b))], []))))
 (some ([.fz (.bool false)], [])) := by kernel_rfl
def C_utf_tail : ACode := codeOf 99 Try.f99
def A_utf_tail_b1 : ACode := C_utf_tail.at [1, 1, 0, 0, 1, 0, 0]
def A_utf_tail_s1 : ACode := C_utf_tail.at [1, 1, 0, 1]
def A_utf_tail_j2 : ACode := C_utf_tail.at [1, 1, 0]
def A_utf_tail : AFunc := ⟨4, [(.tmp 8, .fz)], C_utf_tail, none⟩
def J_utf_tail_2_0 (R : Orc) (k : Nat) (w : Bool) (a : ByteArray) (b : Int) := execL R k w [] A_utf_tail_j2 Ans ⟨[(0, .fz (.str a)), (1, .fz (.int .i64 b))], [(4095, .dead)]⟩ (kFin R [(.tmp 8, .fz)] [])
def K_utf_tail_1 (R : Orc) (k : Nat) (w : Bool) : AExit → St → Option Ans := (kBlk 0 (kSeq R k w [] A_utf_tail_s1 (kFin R [(.tmp 8, .fz)] [])))
def L_utf_tail_1_0 (R : Orc) (k : Nat) (w : Bool) (n : Nat) (a : ByteArray) (b c : Int) := loopL R k w [] [0, 1, 9] [8] A_utf_tail_b1 n ⟨[(0, .fz (.str a)), (1, .fz (.int .i64 b)), (9, .fz (.int .i64 c))], [(4095, .dead)]⟩
def X_utf_tail_1_0 (a : Bool) : St := ⟨[(8, .fz (.bool a))], [(4095, .dead)]⟩
def X_utf_tail_1_1 : St := ⟨[], [(4095, .dead)]⟩
theorem E_utf_tail (R : Orc) (k : Nat) (w : Bool) (a : ByteArray) (b c d : Int) : callL R k w A_utf_tail [.fz (.str a), .fz (.int .i64 b), .fz (.int .u8 c), .fz (.int .u8 d)] = ifB (decide ((ByteArray.size a : Int) ≤ b))
 (some ([.fz (.bool false)], []))
 (when (decide (1 < (ByteArray.size a : Int))) (ifB (decide ((((Array.getD (ByteArray.data a) 1 0).toNat : Nat) : Int) < c))
 (some ([.fz (.bool false)], []))
 (when (decide (1 < (ByteArray.size a : Int))) (ifB (decide ((((Array.getD (ByteArray.data a) 1 0).toNat : Nat) : Int) > d))
 (some ([.fz (.bool false)], []))
 (jump w (J_utf_tail_2_0 R k w a b)))))) := by kernel_rfl
theorem J_utf_tail_2_0_eq (R : Orc) (k : Nat) (w : Bool) (a : ByteArray) (b : Int) : J_utf_tail_2_0 R k w a b = onL (L_utf_tail_1_0 R k w k a b 2) (K_utf_tail_1 R k w) := by kernel_rfl
theorem L_utf_tail_1_0_eq (R : Orc) (k : Nat) (w : Bool) (n : Nat) (a : ByteArray) (b c : Int) : L_utf_tail_1_0 R k w (n + 1) a b c = ifB (decide (c ≤ b))
 (when ((decide (0 ≤ c)) && (decide (c < (ByteArray.size a : Int)))) (ifB (decide ((((Array.getD (ByteArray.data a) (Int.toNat c) 0).toNat : Nat) : Int) < 128))
 (some (.ret, X_utf_tail_1_0 false))
 (when ((decide (0 ≤ c)) && (decide (c < (ByteArray.size a : Int)))) (ifB (decide ((((Array.getD (ByteArray.data a) (Int.toNat c) 0).toNat : Nat) : Int) > 191))
 (some (.ret, X_utf_tail_1_0 false))
 (L_utf_tail_1_0 R k w n a b (IntKind.wrap .i64 (c + 1)))))))
 (some ((.exit 0), X_utf_tail_1_1)) := by kernel_rfl
theorem X_utf_tail_1_0_eq (R : Orc) (k : Nat) (w a : Bool) : K_utf_tail_1 R k w .ret (X_utf_tail_1_0 a) = some ([.fz (.bool a)], []) := by kernel_rfl
theorem X_utf_tail_1_1_eq (R : Orc) (k : Nat) (w : Bool) : K_utf_tail_1 R k w (.exit 0) (X_utf_tail_1_1) = some ([.fz (.bool true)], []) := by kernel_rfl
end
end Go.Ab
end
section
namespace Go.Ab
open Go.Proofs
noncomputable def tab0 : Nat → Option AFunc
 | 7 => some A_law12_of
 | 8 => some A_law12_light
 | 10 => some A_ref12_Text
 | 13 => some A_ref05_Is
 | 16 => some A_level_Lattice_Bottom
 | 17 => some A_ref06_Text
 | 18 => some A_erase_Alike
 | 19 => some A_ref01_Sort
 | 20 => some A_level_New
 | 21 => some A_ref01_Table
 | 22 => some A_ref09_Light
 | 23 => some A_ref09_Is
 | 24 => some A_ref12_text
 | 25 => some A_ref11_Erase
 | 26 => some A_ref09_Bottom
 | 31 => some A_ref05_zero
 | 32 => some A_ref03_Signs
 | 33 => some A_ref04_Is
 | 34 => some A_node_deep
 | 35 => some A_ref04_Text
 | 36 => some A_ref06_quote
 | 37 => some A_node_Same
 | 38 => some A_erase_At
 | 39 => some A_level_named
 | 40 => some A_level_laid
 | 41 => some A_level_closed
 | 42 => some A_level_twisted
 | 43 => some A_level_Lattice_fill
 | 44 => some A_ref09_Size
 | 45 => some A_ref09_Flat
 | 46 => some A_ref09_Labels
 | 47 => some A_ref09_right
 | 48 => some A_ref09_shape
 | 49 => some A_ref09_Strip
 | 50 => some A_ref12_body
 | 51 => some A_ref12_quote
 | 52 => some A_ref11_At
 | 53 => some A_level_Lattice_Join
 | 54 => some A_level_Lattice_Leq
 | 58 => some A_level_Lattice_Text
 | 59 => some A_ref03_Put
 | 60 => some A_node_join
 | 61 => some A_ref04_Of
 | 62 => some A_ref03_Quote
 | 63 => some A_erase_under
 | 64 => some A_level_Name
 | 65 => some A_level_turned
 | 66 => some A_level_over
 | 67 => some A_ref09_Deep
 | 68 => some A_ref09_Join
 | 69 => some A_ref11_sees
 | 70 => some A_ref09_Top
 | 71 => some A_level_Lattice_Is
 | 72 => some A_level_Lattice_Top
 | 78 => some A_erase_hole
 | 79 => some A_node_Array
 | 80 => some A_ref01_Join
 | 81 => some A_level_Lattice_Size
 | 83 => some A_num_Is
 | 84 => some A_num_pow
 | 85 => some A_num_digits
 | 87 => some A_envelope_Key
 | 88 => some A_utf_Valid
 | 89 => some A_utf_quoted
 | 92 => some A_strings_HasPrefix
 | 94 => some A_utf_size
 | 97 => some A_internal_stringslite_HasPrefix
 | 99 => some A_utf_tail
 | _ => none
noncomputable def Rt0 : Orc := RR tab0
theorem rt_call0 {f : Nat} (af : AFunc) {ts : List TV} {r : Ans} (hf : tab0 f = some af) (hl : (af.prim.isNone && (ts.length == af.np && Nat.blt af.np 1000)) = true) (k : Nat) (h : callL Rt0 k true af ts = some r) : Rt0 f ts = some r := RR_call af hf hl k h
set_option maxRecDepth 100000
theorem cf7 : compF Try.prog mds (livesBy Lv Tv 7) 7 Try.f7 = some A_law12_of := by kernel_rfl
theorem cf8 : compF Try.prog mds (livesBy Lv Tv 8) 8 Try.f8 = some A_law12_light := by kernel_rfl
theorem cf10 : compF Try.prog mds (livesBy Lv Tv 10) 10 Try.f10 = some A_ref12_Text := by kernel_rfl
theorem cf13 : compF Try.prog mds (livesBy Lv Tv 13) 13 Try.f13 = some A_ref05_Is := by kernel_rfl
theorem cf16 : compF Try.prog mds (livesBy Lv Tv 16) 16 Try.f16 = some A_level_Lattice_Bottom := by kernel_rfl
theorem cf17 : compF Try.prog mds (livesBy Lv Tv 17) 17 Try.f17 = some A_ref06_Text := by kernel_rfl
theorem cf18 : compF Try.prog mds (livesBy Lv Tv 18) 18 Try.f18 = some A_erase_Alike := by kernel_rfl
theorem cf19 : compF Try.prog mds (livesBy Lv Tv 19) 19 Try.f19 = some A_ref01_Sort := by kernel_rfl
theorem cf20 : compF Try.prog mds (livesBy Lv Tv 20) 20 Try.f20 = some A_level_New := by kernel_rfl
theorem cf21 : compF Try.prog mds (livesBy Lv Tv 21) 21 Try.f21 = some A_ref01_Table := by kernel_rfl
theorem cf22 : compF Try.prog mds (livesBy Lv Tv 22) 22 Try.f22 = some A_ref09_Light := by kernel_rfl
theorem cf23 : compF Try.prog mds (livesBy Lv Tv 23) 23 Try.f23 = some A_ref09_Is := by kernel_rfl
theorem cf24 : compF Try.prog mds (livesBy Lv Tv 24) 24 Try.f24 = some A_ref12_text := by kernel_rfl
theorem cf25 : compF Try.prog mds (livesBy Lv Tv 25) 25 Try.f25 = some A_ref11_Erase := by kernel_rfl
theorem cf26 : compF Try.prog mds (livesBy Lv Tv 26) 26 Try.f26 = some A_ref09_Bottom := by kernel_rfl
theorem cf31 : compF Try.prog mds (livesBy Lv Tv 31) 31 Try.f31 = some A_ref05_zero := by kernel_rfl
theorem cf32 : compF Try.prog mds (livesBy Lv Tv 32) 32 Try.f32 = some A_ref03_Signs := by kernel_rfl
theorem cf33 : compF Try.prog mds (livesBy Lv Tv 33) 33 Try.f33 = some A_ref04_Is := by kernel_rfl
theorem cf34 : compF Try.prog mds (livesBy Lv Tv 34) 34 Try.f34 = some A_node_deep := by kernel_rfl
theorem cf35 : compF Try.prog mds (livesBy Lv Tv 35) 35 Try.f35 = some A_ref04_Text := by kernel_rfl
theorem cf36 : compF Try.prog mds (livesBy Lv Tv 36) 36 Try.f36 = some A_ref06_quote := by kernel_rfl
theorem cf37 : compF Try.prog mds (livesBy Lv Tv 37) 37 Try.f37 = some A_node_Same := by kernel_rfl
theorem cf38 : compF Try.prog mds (livesBy Lv Tv 38) 38 Try.f38 = some A_erase_At := by kernel_rfl
theorem cf39 : compF Try.prog mds (livesBy Lv Tv 39) 39 Try.f39 = some A_level_named := by kernel_rfl
theorem cf40 : compF Try.prog mds (livesBy Lv Tv 40) 40 Try.f40 = some A_level_laid := by kernel_rfl
theorem cf41 : compF Try.prog mds (livesBy Lv Tv 41) 41 Try.f41 = some A_level_closed := by kernel_rfl
theorem cf42 : compF Try.prog mds (livesBy Lv Tv 42) 42 Try.f42 = some A_level_twisted := by kernel_rfl
theorem cf43 : compF Try.prog mds (livesBy Lv Tv 43) 43 Try.f43 = some A_level_Lattice_fill := by kernel_rfl
theorem cf44 : compF Try.prog mds (livesBy Lv Tv 44) 44 Try.f44 = some A_ref09_Size := by kernel_rfl
theorem cf45 : compF Try.prog mds (livesBy Lv Tv 45) 45 Try.f45 = some A_ref09_Flat := by kernel_rfl
theorem cf46 : compF Try.prog mds (livesBy Lv Tv 46) 46 Try.f46 = some A_ref09_Labels := by kernel_rfl
theorem cf47 : compF Try.prog mds (livesBy Lv Tv 47) 47 Try.f47 = some A_ref09_right := by kernel_rfl
theorem cf48 : compF Try.prog mds (livesBy Lv Tv 48) 48 Try.f48 = some A_ref09_shape := by kernel_rfl
theorem cf49 : compF Try.prog mds (livesBy Lv Tv 49) 49 Try.f49 = some A_ref09_Strip := by kernel_rfl
theorem cf50 : compF Try.prog mds (livesBy Lv Tv 50) 50 Try.f50 = some A_ref12_body := by kernel_rfl
theorem cf51 : compF Try.prog mds (livesBy Lv Tv 51) 51 Try.f51 = some A_ref12_quote := by kernel_rfl
theorem cf52 : compF Try.prog mds (livesBy Lv Tv 52) 52 Try.f52 = some A_ref11_At := by kernel_rfl
theorem cf53 : compF Try.prog mds (livesBy Lv Tv 53) 53 Try.f53 = some A_level_Lattice_Join := by kernel_rfl
theorem cf54 : compF Try.prog mds (livesBy Lv Tv 54) 54 Try.f54 = some A_level_Lattice_Leq := by kernel_rfl
theorem cf58 : compF Try.prog mds (livesBy Lv Tv 58) 58 Try.f58 = some A_level_Lattice_Text := by kernel_rfl
theorem cf59 : compF Try.prog mds (livesBy Lv Tv 59) 59 Try.f59 = some A_ref03_Put := by kernel_rfl
theorem cf60 : compF Try.prog mds (livesBy Lv Tv 60) 60 Try.f60 = some A_node_join := by kernel_rfl
theorem cf61 : compF Try.prog mds (livesBy Lv Tv 61) 61 Try.f61 = some A_ref04_Of := by kernel_rfl
theorem cf62 : compF Try.prog mds (livesBy Lv Tv 62) 62 Try.f62 = some A_ref03_Quote := by kernel_rfl
theorem cf63 : compF Try.prog mds (livesBy Lv Tv 63) 63 Try.f63 = some A_erase_under := by kernel_rfl
theorem cf64 : compF Try.prog mds (livesBy Lv Tv 64) 64 Try.f64 = some A_level_Name := by kernel_rfl
theorem cf65 : compF Try.prog mds (livesBy Lv Tv 65) 65 Try.f65 = some A_level_turned := by kernel_rfl
theorem cf66 : compF Try.prog mds (livesBy Lv Tv 66) 66 Try.f66 = some A_level_over := by kernel_rfl
theorem cf67 : compF Try.prog mds (livesBy Lv Tv 67) 67 Try.f67 = some A_ref09_Deep := by kernel_rfl
theorem cf68 : compF Try.prog mds (livesBy Lv Tv 68) 68 Try.f68 = some A_ref09_Join := by kernel_rfl
theorem cf69 : compF Try.prog mds (livesBy Lv Tv 69) 69 Try.f69 = some A_ref11_sees := by kernel_rfl
theorem cf70 : compF Try.prog mds (livesBy Lv Tv 70) 70 Try.f70 = some A_ref09_Top := by kernel_rfl
theorem cf71 : compF Try.prog mds (livesBy Lv Tv 71) 71 Try.f71 = some A_level_Lattice_Is := by kernel_rfl
theorem cf72 : compF Try.prog mds (livesBy Lv Tv 72) 72 Try.f72 = some A_level_Lattice_Top := by kernel_rfl
theorem cf78 : compF Try.prog mds (livesBy Lv Tv 78) 78 Try.f78 = some A_erase_hole := by kernel_rfl
theorem cf79 : compF Try.prog mds (livesBy Lv Tv 79) 79 Try.f79 = some A_node_Array := by kernel_rfl
theorem cf80 : compF Try.prog mds (livesBy Lv Tv 80) 80 Try.f80 = some A_ref01_Join := by kernel_rfl
theorem cf81 : compF Try.prog mds (livesBy Lv Tv 81) 81 Try.f81 = some A_level_Lattice_Size := by kernel_rfl
theorem cf83 : compF Try.prog mds (livesBy Lv Tv 83) 83 Try.f83 = some A_num_Is := by kernel_rfl
theorem cf84 : compF Try.prog mds (livesBy Lv Tv 84) 84 Try.f84 = some A_num_pow := by kernel_rfl
theorem cf85 : compF Try.prog mds (livesBy Lv Tv 85) 85 Try.f85 = some A_num_digits := by kernel_rfl
theorem cf87 : compF Try.prog mds (livesBy Lv Tv 87) 87 Try.f87 = some A_envelope_Key := by kernel_rfl
theorem cf88 : compF Try.prog mds (livesBy Lv Tv 88) 88 Try.f88 = some A_utf_Valid := by kernel_rfl
theorem cf89 : compF Try.prog mds (livesBy Lv Tv 89) 89 Try.f89 = some A_utf_quoted := by kernel_rfl
theorem cf92 : compF Try.prog mds (livesBy Lv Tv 92) 92 Try.f92 = some A_strings_HasPrefix := by kernel_rfl
theorem cf94 : compF Try.prog mds (livesBy Lv Tv 94) 94 Try.f94 = some A_utf_size := by kernel_rfl
theorem cf97 : compF Try.prog mds (livesBy Lv Tv 97) 97 Try.f97 = some A_internal_stringslite_HasPrefix := by kernel_rfl
theorem cf99 : compF Try.prog mds (livesBy Lv Tv 99) 99 Try.f99 = some A_utf_tail := by kernel_rfl
theorem tab0_ok : TabOK Try.prog mds (livesBy Lv Tv) tab0 := by
 intro f af h
 unfold tab0 at h
 split at h
 ·cases h; exact .inl ⟨Try.f7, by kernel_rfl, cf7⟩
 ·cases h; exact .inl ⟨Try.f8, by kernel_rfl, cf8⟩
 ·cases h; exact .inl ⟨Try.f10, by kernel_rfl, cf10⟩
 ·cases h; exact .inl ⟨Try.f13, by kernel_rfl, cf13⟩
 ·cases h; exact .inl ⟨Try.f16, by kernel_rfl, cf16⟩
 ·cases h; exact .inl ⟨Try.f17, by kernel_rfl, cf17⟩
 ·cases h; exact .inl ⟨Try.f18, by kernel_rfl, cf18⟩
 ·cases h; exact .inl ⟨Try.f19, by kernel_rfl, cf19⟩
 ·cases h; exact .inl ⟨Try.f20, by kernel_rfl, cf20⟩
 ·cases h; exact .inl ⟨Try.f21, by kernel_rfl, cf21⟩
 ·cases h; exact .inl ⟨Try.f22, by kernel_rfl, cf22⟩
 ·cases h; exact .inl ⟨Try.f23, by kernel_rfl, cf23⟩
 ·cases h; exact .inl ⟨Try.f24, by kernel_rfl, cf24⟩
 ·cases h; exact .inl ⟨Try.f25, by kernel_rfl, cf25⟩
 ·cases h; exact .inl ⟨Try.f26, by kernel_rfl, cf26⟩
 ·cases h; exact .inl ⟨Try.f31, by kernel_rfl, cf31⟩
 ·cases h; exact .inl ⟨Try.f32, by kernel_rfl, cf32⟩
 ·cases h; exact .inl ⟨Try.f33, by kernel_rfl, cf33⟩
 ·cases h; exact .inl ⟨Try.f34, by kernel_rfl, cf34⟩
 ·cases h; exact .inl ⟨Try.f35, by kernel_rfl, cf35⟩
 ·cases h; exact .inl ⟨Try.f36, by kernel_rfl, cf36⟩
 ·cases h; exact .inl ⟨Try.f37, by kernel_rfl, cf37⟩
 ·cases h; exact .inl ⟨Try.f38, by kernel_rfl, cf38⟩
 ·cases h; exact .inl ⟨Try.f39, by kernel_rfl, cf39⟩
 ·cases h; exact .inl ⟨Try.f40, by kernel_rfl, cf40⟩
 ·cases h; exact .inl ⟨Try.f41, by kernel_rfl, cf41⟩
 ·cases h; exact .inl ⟨Try.f42, by kernel_rfl, cf42⟩
 ·cases h; exact .inl ⟨Try.f43, by kernel_rfl, cf43⟩
 ·cases h; exact .inl ⟨Try.f44, by kernel_rfl, cf44⟩
 ·cases h; exact .inl ⟨Try.f45, by kernel_rfl, cf45⟩
 ·cases h; exact .inl ⟨Try.f46, by kernel_rfl, cf46⟩
 ·cases h; exact .inl ⟨Try.f47, by kernel_rfl, cf47⟩
 ·cases h; exact .inl ⟨Try.f48, by kernel_rfl, cf48⟩
 ·cases h; exact .inl ⟨Try.f49, by kernel_rfl, cf49⟩
 ·cases h; exact .inl ⟨Try.f50, by kernel_rfl, cf50⟩
 ·cases h; exact .inl ⟨Try.f51, by kernel_rfl, cf51⟩
 ·cases h; exact .inl ⟨Try.f52, by kernel_rfl, cf52⟩
 ·cases h; exact .inl ⟨Try.f53, by kernel_rfl, cf53⟩
 ·cases h; exact .inl ⟨Try.f54, by kernel_rfl, cf54⟩
 ·cases h; exact .inl ⟨Try.f58, by kernel_rfl, cf58⟩
 ·cases h; exact .inl ⟨Try.f59, by kernel_rfl, cf59⟩
 ·cases h; exact .inl ⟨Try.f60, by kernel_rfl, cf60⟩
 ·cases h; exact .inl ⟨Try.f61, by kernel_rfl, cf61⟩
 ·cases h; exact .inl ⟨Try.f62, by kernel_rfl, cf62⟩
 ·cases h; exact .inl ⟨Try.f63, by kernel_rfl, cf63⟩
 ·cases h; exact .inl ⟨Try.f64, by kernel_rfl, cf64⟩
 ·cases h; exact .inl ⟨Try.f65, by kernel_rfl, cf65⟩
 ·cases h; exact .inl ⟨Try.f66, by kernel_rfl, cf66⟩
 ·cases h; exact .inl ⟨Try.f67, by kernel_rfl, cf67⟩
 ·cases h; exact .inl ⟨Try.f68, by kernel_rfl, cf68⟩
 ·cases h; exact .inl ⟨Try.f69, by kernel_rfl, cf69⟩
 ·cases h; exact .inl ⟨Try.f70, by kernel_rfl, cf70⟩
 ·cases h; exact .inl ⟨Try.f71, by kernel_rfl, cf71⟩
 ·cases h; exact .inl ⟨Try.f72, by kernel_rfl, cf72⟩
 ·cases h; exact .inl ⟨Try.f78, by kernel_rfl, cf78⟩
 ·cases h; exact .inl ⟨Try.f79, by kernel_rfl, cf79⟩
 ·cases h; exact .inl ⟨Try.f80, by kernel_rfl, cf80⟩
 ·cases h; exact .inl ⟨Try.f81, by kernel_rfl, cf81⟩
 ·cases h; exact .inl ⟨Try.f83, by kernel_rfl, cf83⟩
 ·cases h; exact .inl ⟨Try.f84, by kernel_rfl, cf84⟩
 ·cases h; exact .inl ⟨Try.f85, by kernel_rfl, cf85⟩
 ·cases h; exact .inl ⟨Try.f87, by kernel_rfl, cf87⟩
 ·cases h; exact .inl ⟨Try.f88, by kernel_rfl, cf88⟩
 ·cases h; exact .inl ⟨Try.f89, by kernel_rfl, cf89⟩
 ·cases h; exact .inl ⟨Try.f92, by kernel_rfl, cf92⟩
 ·cases h; exact .inl ⟨Try.f94, by kernel_rfl, cf94⟩
 ·cases h; exact .inl ⟨Try.f97, by kernel_rfl, cf97⟩
 ·cases h; exact .inl ⟨Try.f99, by kernel_rfl, cf99⟩
 ·cases h
end Go.Ab
end
section
namespace Go.Ab
open Go.Proofs Go.Shelf Go.RowKit
variable {P : Program} {ρ : Ren}
set_option maxHeartbeats 1000000 in
set_option maxRecDepth 100000 in
theorem E_copyCheck_used (L : Lays.n240 P ρ) (X : Builder.X72 P ρ) (b o : Nat) (w : World) (h0 : w.cell? ⟨b, o, none⟩ = some (.pointer (some ⟨b, o, none⟩))) :
   Calls P (ρ.f 240) #[.pointer (some ⟨b, o, none⟩)] w fun e w' => e = .returned (.tuple #[]) ∧ w' = w := by
 obtain ⟨j, hj, _⟩ := Option.map_eq_some_iff.1 X.sizeBuilder
 have mixed := L.mixed
 have t72 := L.t72; have a72 := L.a72; have z72 := L.z72; have v72 := L.v72; have u72 := run_underlying L.t72
 have t70 := L.t70; have a70 := L.a70; have z70 := L.z70; have v70 := L.v70; have u70 := run_underlying L.t70
 have t9 := L.t9; have a9 := L.a9; have z9 := L.z9; have v9 := L.v9; have u9 := run_underlying L.t9
 have t4 := L.t4; have a4 := L.a4; have z4 := L.z4; have v4 := L.v4; have u4 := run_underlying L.t4
 have t164 := L.t164; have a164 := L.a164; have z164 := L.z164; have v164 := L.v164; have u164 := run_underlying L.t164
 go_enter L.f240, Body.n240_ntmps ρ
 go_wp2
 rw [Lib.run_neq_ptr_same w _ L.t70 hj]
 go_wp2
 go_end0
 exact ⟨rfl, rfl⟩
set_option maxHeartbeats 1000000 in
set_option maxRecDepth 100000 in
theorem E_copyCheck_fresh (L : Lays.n240 P ρ) (X : Builder.X72 P ρ) (b o N : Nat) (T : TypeId) (w : World) (h0 : w.cell? ⟨b, o, none⟩ = some (.pointer none)) (hsh : w.shape? b = some (T, N)) (ho : o < N) (hlies : liesAt P P.depth T (N / P.cellsOf T) o (ρ.t 72) 1 = true) (hfz : w.frozen? ⟨b, o, none⟩ = false) :
   Calls P (ρ.f 240) #[.pointer (some ⟨b, o, none⟩)] w fun e w' => e = .returned (.tuple #[]) ∧ w' = w.setCell ⟨b, o, none⟩ (.pointer (some ⟨b, o, none⟩)) := by
 obtain ⟨j, hj, hjs⟩ := Option.map_eq_some_iff.1 X.sizeBuilder
 have mixed := L.mixed
 have t72 := L.t72; have a72 := L.a72; have z72 := L.z72; have v72 := L.v72; have u72 := run_underlying L.t72
 have t70 := L.t70; have a70 := L.a70; have z70 := L.z70; have v70 := L.v70; have u70 := run_underlying L.t70
 have t9 := L.t9; have a9 := L.a9; have z9 := L.z9; have v9 := L.v9; have u9 := run_underlying L.t9
 have t4 := L.t4; have a4 := L.a4; have z4 := L.z4; have v4 := L.v4; have u4 := run_underlying L.t4
 have t164 := L.t164; have a164 := L.a164; have z164 := L.z164; have v164 := L.v164; have u164 := run_underlying L.t164
 go_enter L.f240, Body.n240_ntmps ρ
 go_wp2
 rw [Lib.run_to_unsafe w ⟨b, o, none⟩ L.t70 L.t164 hj (by rw [hjs]; decide) hsh ho]
 simp only [Result.andThen]
 rw [Oper.upon_value]
 go_wp2
 rw [run_callFunc_extern L.f276 (by kernel_rfl) (by kernel_rfl) (by kernel_rfl) (e := Extern.AbiNoEscape.same) (by kernel_rfl)]
 rw [Lib.run_noEscape]
 simp only [Result.andThen]
 rw [Oper.upon_value]
 go_wp2
 rw [Lib.run_from_unsafe w ⟨b, o, none⟩ L.t164 L.t70 hj hsh hlies]
 simp only [Result.andThen]
 rw [Oper.upon_value]
 go_wp2
 go_end0
 exact ⟨rfl, rfl⟩
def BldE (T e : TypeId) (B b o : Nat) (cs : Array Value) (p : Value) (bs : List Value) (w : World) : Prop :=
  B ≤ b ∧ w.heap[b]? = some (.cells cs T (0, 0)) ∧ cs[o]? = some p ∧ ∃ v, cs[o + 1]? = some v ∧ w.ownsRowF B e 1 v bs.length bs ∧ v.ownBlock ≠ some b ∧ (bs = [] → v = .slice none 0 0)
def IsE (T e : TypeId) (B b o : Nat) (cs : Array Value) (bs : List Value) (w : World) : Prop :=
 BldE T e B b o cs (.pointer none) bs w ∨ BldE T e B b o cs (.pointer (some ⟨b, o, none⟩)) bs w
def SameBut (o : Nat) (cs cs' : Array Value) : Prop := cs'.size = cs.size ∧ ∀ j, j ≠ o → j ≠ o + 1 → cs'[j]? = cs[j]?
theorem SameBut.refl (o : Nat) (cs : Array Value) : SameBut o cs cs := ⟨rfl, fun _ _ _ => rfl⟩
theorem SameBut.trans {o : Nat} {a b c : Array Value} (h : SameBut o a b) (k : SameBut o b c) : SameBut o a c := ⟨k.1.trans h.1, fun j h1 h2 => (k.2 j h1 h2).trans (h.2 j h1 h2)⟩
theorem SameBut.set (o : Nat) (cs : Array Value) (i : Nat) (x : Value) (h : i = o ∨ i = o + 1) : SameBut o cs (cs.setIfInBounds i x) :=
 ⟨by simp, fun j h1 h2 => by rw [Array.getElem?_setIfInBounds_ne (by rcases h with rfl | rfl <;> omega)]⟩
theorem set_heap {w : World} {b i : Nat} {cs : Array Value} {T : TypeId} {x : Value} (h : w.heap[b]? = some (.cells cs T (0, 0))) : (w.setCell ⟨b, i, none⟩ x).heap[b]? = some (.cells (cs.setIfInBounds i x) T (0, 0)) := by
 simp [World.setCell, Array.getElem?_modify, h]
theorem own_set {w : World} {B b i : Nat} {e : TypeId} {v x : Value} {n : Nat} {xs : List Value} (h : w.ownsRowF B e 1 v n xs) (hne : v.ownBlock ≠ some b) : (w.setCell ⟨b, i, none⟩ x).ownsRowF B e 1 v n xs :=
 h.kept (row := some b) ⟨rfl, rfl, rfl, by simp [World.setCell], fun k _ hk => Below.heap_setCell _ _ _ _ (fun e => hk (by simp [e]))⟩ (Or.inr hne)
set_option maxHeartbeats 2000000 in
set_option maxRecDepth 100000 in
theorem E_String (L : Lays.n169 P ρ) (X : Builder.Extra P ρ) {T : TypeId} {B b o : Nat} {cs : Array Value} {l : List UInt8} {w : World} (h : IsE T (ρ.t 5) B b o cs (Lib.byteCells l) w) :
   Calls P (ρ.f 169) #[.pointer (some ⟨b, o, none⟩)] w fun e w' => e = .returned (.string ⟨l.toArray⟩) ∧ Below B w w' ∧ (B ≤ b → w'.heap[b]? = w.heap[b]?) := by
 obtain ⟨p, hB, hbk, h0, v, h1, hown, hne, hnil⟩ : ∃ p, BldE T (ρ.t 5) B b o cs p (Lib.byteCells l) w := by
   rcases h with h | h
   · exact ⟨_, h⟩
   · exact ⟨_, h⟩
 have mixed := L.mixed
 have t72 := L.t72; have a72 := L.a72; have z72 := L.z72; have v72 := L.v72; have u72 := run_underlying L.t72
 have t70 := L.t70; have a70 := L.a70; have z70 := L.z70; have v70 := L.v70; have u70 := run_underlying L.t70
 have t37 := L.t37; have a37 := L.a37; have z37 := L.z37; have v37 := L.v37; have u37 := run_underlying L.t37
 have t127 := L.t127; have a127 := L.a127; have z127 := L.z127; have v127 := L.v127; have u127 := run_underlying L.t127
 have t3 := L.t3; have a3 := L.a3; have z3 := L.z3; have v3 := L.v3; have u3 := run_underlying L.t3
 have t9 := L.t9; have a9 := L.a9; have z9 := L.z9; have v9 := L.v9; have u9 := run_underlying L.t9
 have t5 := X.t5; have a5 := X.a5; have z5 := X.z5; have v5 := X.v5; have u5 := run_underlying X.t5
 by_cases hl : l = []
 · subst hl
   obtain rfl := hnil rfl
   have hUS := Any.unsafeString_none L X
   have c1 : w.drew.cell? ⟨b, o + 1, none⟩ = some (.slice none 0 0) := by
     have : w.drew.heap[b]? = some (.cells cs T (0, 0)) := hbk
     rw [Lib.cell_of_heap this]; exact h1
   have hSD : (Builtin.unsafeSliceData_ #[(ρ.t 37)] (ρ.t 127) #[.slice none 0 0]).run P w.drew = .ok (.pointer none) w.drew := rfl
   go_enter L.f169, Body.n169_ntmps ρ
   go_wp2
   go_region_o
   all_goals (go_wp2; go_ret; exact ⟨rfl, Below.drew (Below.refl B w), fun _ => rfl⟩)
 · have hl0 : l.length ≠ 0 := by simpa using hl
   rw [Lib.byteCells_length] at hown
   obtain ⟨g, cap, cur, fz, rfl, hbg, hg, hfz, hnc, hcm, hcs, htake⟩ : ∃ g cap cur fz, v = .slice (some ⟨g, 0, none⟩) l.length cap ∧ B ≤ g ∧ w.heap[g]? = some (.cells cur (ρ.t 5) fz) ∧ fz.2 ≤ l.length * 1 ∧ l.length ≤ cap ∧ cap ≤ maxLen ∧ cur.size = cap * 1 ∧ cur.toList.take (l.length * 1) = Lib.byteCells l := by
     rcases hown.2 with ⟨_, hz⟩ | ⟨g, cap, cur, fz, hv, r⟩
     · exact absurd hz hl0
     · exact ⟨g, cap, cur, fz, hv, r⟩
   have c1 : w.drew.cell? ⟨b, o + 1, none⟩ = some (.slice (some ⟨g, 0, none⟩) l.length cap) := by
     have : w.drew.heap[b]? = some (.cells cs T (0, 0)) := hbk
     rw [Lib.cell_of_heap this]; exact h1
   have hSD : (Builtin.unsafeSliceData_ #[(ρ.t 37)] (ρ.t 127) #[.slice (some ⟨g, 0, none⟩) l.length cap]).run P w.drew = .ok (.pointer (some ⟨g, 0, none⟩)) w.drew :=
     Lib.run_unsafeSliceData_row _ _ _ _ _ _ (by omega)
   have hUS : (Builtin.unsafeString_ #[(ρ.t 127), (ρ.t 3)] (ρ.t 9) #[.pointer (some ⟨g, 0, none⟩), .int .i64 l.length]).run P w.drew = .ok (.string ⟨l.toArray⟩) (w.drew.freeze ⟨g, 0, none⟩ l.length) := by
     refine Lib.run_unsafeString_row w.drew (ρ.t 127) (ρ.t 3) (ρ.t 9) (ρ.t 5) L.t127 X.cellsByte g cur.size (by have hg' : w.drew.heap[g]? = some (.cells cur (ρ.t 5) fz) := hg; simp [World.shape?, hg']) l hl (by omega) (by unfold maxLen at hcm; omega) ?_
     intro j x hx
     have := hown.cells (g := g) rfl j (.int .u8 x.toNat) (by simp [Lib.byteCells, hx])
     exact this
   have hgb : b ≠ g := fun e => hne (by simp [Value.ownBlock, e])
   have hfr : (w.drew.freeze ⟨g, 0, none⟩ l.length).heap[b]? = w.drew.heap[b]? := by
     unfold World.freeze
     split
     · rfl
     · simp [Array.getElem?_modify, Ne.symm hgb]
   go_enter L.f169, Body.n169_ntmps ρ
   go_wp2
   go_region_o
   all_goals (go_wp2; go_ret; exact ⟨rfl, Lib.below_freeze (Below.drew (Below.refl B w)) (p := ⟨g, 0, none⟩) hbg _, fun _ => hfr⟩)
end Go.Ab
end
section
namespace Go.Ab
open Go.Proofs Go.Shelf Go.RowKit
variable {P : Program} {ρ : Ren}
theorem E_copyCheck_k (L : Lays.n240 P ρ) (X : Builder.X72 P ρ) {T : TypeId} {B b o : Nat} {cs : Array Value} {bs : List Value} {w : World} (hlies : liesAt P P.depth T (cs.size / P.cellsOf T) o (ρ.t 72) 1 = true) (h : IsE T (ρ.t 5) B b o cs bs w) :
   Calls P (ρ.f 240) #[.pointer (some ⟨b, o, none⟩)] w fun e w' => e = .returned (.tuple #[]) ∧ ∃ cs', SameBut o cs cs' ∧ BldE T (ρ.t 5) B b o cs' (.pointer (some ⟨b, o, none⟩)) bs w' ∧ Below B w w' ∧ w.heap.size ≤ w'.heap.size ∧ Lib.OthersKept (ρ.t 5) (some b) w w' := by
 rcases h with h | h
 · obtain ⟨hB, hb, h0, v, h1, hown, hne, hnil⟩ := h
   have ho : o < cs.size := (Array.getElem?_eq_some_iff.1 h0).1
   have hsh : w.shape? b = some (T, cs.size) := by simp [World.shape?, hb]
   refine (E_copyCheck_fresh L X b o cs.size T w (by rw [Lib.cell_of_heap hb]; exact h0) hsh ho hlies (Lib.frozen_of_heap hb o)).mono ?_
   rintro e w' ⟨rfl, rfl⟩
   refine ⟨rfl, cs.setIfInBounds o (.pointer (some ⟨b, o, none⟩)), .set _ _ _ _ (.inl rfl), ⟨hB, set_heap hb, by simp [ho], v, ?_, own_set hown hne, hne, hnil⟩, (Below.refl B w).setCell (p := ⟨b, o, none⟩) hB _, by simp [World.setCell], (Lib.OthersKept.refl _ _ w).setCell ⟨b, o, none⟩ rfl _⟩
   rw [Array.getElem?_setIfInBounds_ne (by omega)]; exact h1
 · have hb := h.2.1
   refine (E_copyCheck_used L X b o w (by rw [Lib.cell_of_heap hb]; exact h.2.2.1)).mono ?_
   rintro e w' ⟨rfl, rfl⟩
   exact ⟨rfl, cs, .refl _ _, h, Below.refl B _, Nat.le_refl _, Lib.OthersKept.refl _ _ _⟩
set_option maxHeartbeats 2000000 in
set_option maxRecDepth 100000 in
theorem E_WriteString_k (L : Lays.n166 P ρ) (X : Builder.Extra P ρ) {T : TypeId} {B b o : Nat} {cs : Array Value} {bs : List Value} {w : World} (s : ByteArray) (hs0 : s.size ≠ 0) (hTe : T ≠ ρ.t 5) (hlies : liesAt P P.depth T (cs.size / P.cellsOf T) o (ρ.t 72) 1 = true) (h : IsE T (ρ.t 5) B b o cs bs w) (hlen : bs.length + s.size ≤ 140737488355328) (hBw : B ≤ w.heap.size) :
   Calls P (ρ.f 166) #[.pointer (some ⟨b, o, none⟩), .string s] w fun e w' => e = .returned (.tuple #[.int .i64 s.size, .nilIface]) ∧ ∃ cs', SameBut o cs cs' ∧ BldE T (ρ.t 5) B b o cs' (.pointer (some ⟨b, o, none⟩)) (bs ++ Lib.strCells s) w' ∧ Below B w w' ∧ w.heap.size ≤ w'.heap.size ∧ Lib.OthersKept (ρ.t 5) (some b) w w' := by
 obtain ⟨i0, hi, hz0, hz1, hz2⟩ := info_parts X.infoByte
 have mixed := L.mixed
 have t72 := L.t72; have a72 := L.a72; have z72 := L.z72; have v72 := L.v72; have u72 := run_underlying L.t72
 have t70 := L.t70; have a70 := L.a70; have z70 := L.z70; have v70 := L.v70; have u70 := run_underlying L.t70
 have t5 := X.t5; have a5 := X.a5; have z5 := X.z5; have v5 := X.v5; have u5 := run_underlying X.t5
 have t37 := L.t37; have a37 := L.a37; have z37 := L.z37; have v37 := L.v37; have u37 := run_underlying L.t37
 have t9 := L.t9; have a9 := L.a9; have z9 := L.z9; have v9 := L.v9; have u9 := run_underlying L.t9
 have t4 := L.t4; have a4 := L.a4; have z4 := L.z4; have v4 := L.v4; have u4 := run_underlying L.t4
 have t164 := L.t164; have a164 := L.a164; have z164 := L.z164; have v164 := L.v164; have u164 := run_underlying L.t164
 have t3 := L.t3; have a3 := L.a3; have z3 := L.z3; have v3 := L.v3; have u3 := run_underlying L.t3
 have e240 : ∀ args w, (callFunc (ρ.f 240) args).run P w = .ok (.enter (ρ.f 240) args) w := enters_of L.f240 (by kernel_rfl) rfl
 go_enter L.f166, Body.n166_ntmps ρ
 go_wp2_with (go_at_fn (ρ.f 240); refine (E_copyCheck_k { L with } X.toX72 hlies h).mono ?_)
 rintro e w1 ⟨rfl, cs1, hs1, hA, hb1, hsz1, hk1⟩
 obtain ⟨hB, hbk, h0, v, h1, hown, hne, hnil⟩ := hA
 have c0 : w1.cell? ⟨b, o, none⟩ = some (.pointer (some ⟨b, o, none⟩)) := by rw [Lib.cell_of_heap hbk]; exact h0
 have c1 : w1.cell? ⟨b, o + 1, none⟩ = some v := by rw [Lib.cell_of_heap hbk]; exact h1
 go_wp2_with (at_builtin; refine Lib.wpList_append_own_stringF _ rfl _ _ (ρ.t 37) (ρ.t 9) rfl B (ρ.t 5) i0 L.t37 L.t9 hi hz0 hz1 hz2 _ _ _ rfl hown s rfl ?c3 ?c4 ?c5 ?_)
 case c3 => unfold maxLen; omega
 case c4 => omega
 case c5 => omega
 intro v' w2 hown' hgrow _
 have hlt : b < w1.heap.size := (Array.getElem?_eq_some_iff.1 hbk).1
 have hb2 : w2.heap[b]? = some (.cells cs1 T (0, 0)) := by
   rw [hgrow.block b hlt (fun e => hne e.symm)]
   exact hbk
 have d0 : w2.cell? ⟨b, o, none⟩ = some (.pointer (some ⟨b, o, none⟩)) := by rw [Lib.cell_of_heap hb2]; exact h0
 have d1 : w2.cell? ⟨b, o + 1, none⟩ = some v := by rw [Lib.cell_of_heap hb2]; exact h1
 have f1 : w2.frozen? ⟨b, o + 1, none⟩ = false := Lib.frozen_of_heap hb2 (o + 1)
 obtain ⟨ao, n', cap, rfl⟩ : ∃ ao n' cap, v' = .slice ao n' cap := by
   rcases hown'.2 with ⟨hv, _⟩ | ⟨g, cap, cur, fz, hv, _⟩
   · exact ⟨_, _, _, hv⟩
   · exact ⟨_, _, _, hv⟩
 go_wp2
 go_ret2
 have hne' := Lib.ownBlock_neF hown' hb2 hTe
 have ho1 : o + 1 < cs1.size := (Array.getElem?_eq_some_iff.1 h1).1
 have hgs := hgrow.size
 refine ⟨rfl, cs1.setIfInBounds (o + 1) (.slice ao n' cap), hs1.trans (.set _ _ _ _ (.inr rfl)), ⟨hB, set_heap hb2, by rw [Array.getElem?_setIfInBounds_ne (by omega)]; exact h0, _, by simp [ho1], own_set (by simpa [Lib.strCells_length] using hown') hne', hne', fun e => by
   have := congrArg List.length e
   rw [List.length_append, Lib.strCells_length, List.length_nil] at this
   omega⟩, ?_, by simp [World.setCell] at hgs ⊢; omega, (hk1.grown hgrow (Lib.ownsRowF_kind hown)).setCell ⟨b, o + 1, none⟩ rfl _⟩
 exact (hb1.grown hgrow (by omega) (fun k hk => (hown.lt k hk).1)).setCell (p := ⟨b, o + 1, none⟩) hB _
set_option maxHeartbeats 1000000 in
set_option maxRecDepth 100000 in
theorem E_Len (L : Lays.n170 P ρ) {T : TypeId} {B b o : Nat} {cs : Array Value} {bs : List Value} {w : World} (h : IsE T (ρ.t 5) B b o cs bs w) :
   Calls P (ρ.f 170) #[.pointer (some ⟨b, o, none⟩)] w fun e w' => e = .returned (.int .i64 bs.length) ∧ w' = w := by
 obtain ⟨p, hB, hbk, h0, v, h1, hown, hne, hnil⟩ : ∃ p, BldE T (ρ.t 5) B b o cs p bs w := by
   rcases h with h | h
   · exact ⟨_, h⟩
   · exact ⟨_, h⟩
 obtain ⟨ao, cap, rfl⟩ : ∃ ao cap, v = .slice ao bs.length cap := by
   rcases hown.2 with ⟨hv, h0⟩ | ⟨g, cap, cur, fz, hv, _⟩
   · exact ⟨none, 0, by rw [hv, h0]⟩
   · exact ⟨_, _, hv⟩
 have c1 : w.cell? ⟨b, o + 1, none⟩ = some (.slice ao bs.length cap) := by rw [Lib.cell_of_heap hbk]; exact h1
 have mixed := L.mixed
 have t72 := L.t72; have a72 := L.a72; have z72 := L.z72; have v72 := L.v72; have u72 := run_underlying L.t72
 have t70 := L.t70; have a70 := L.a70; have z70 := L.z70; have v70 := L.v70; have u70 := run_underlying L.t70
 have t37 := L.t37; have a37 := L.a37; have z37 := L.z37; have v37 := L.v37; have u37 := run_underlying L.t37
 have t3 := L.t3; have a3 := L.a3; have z3 := L.z3; have v3 := L.v3; have u3 := run_underlying L.t3
 go_enter L.f170, Body.n170_ntmps ρ
 go_wp2
 go_ret
 exact ⟨rfl, rfl⟩
end Go.Ab
end
section
namespace Go.Proofs
open Go.Shelf
def Try.lays105_ren : Go.Shelf.Ren := ⟨fun | 105 => 86 | 212 => 91 | 99 => 92 | 165 => 93 | 166 => 74 | 170 => 73 | 169 => 28 | 263 => 95 | 264 => 96 | 206 => 97 | 240 => 82 | 241 => 98 | 276 => 90 | 277 => 100 | n => n, fun | 9 => 9 | 3 => 3 | 4 => 4 | 20 => 20 | 0 => 0 | 46 => 136 | 109 => 137 | 5 => 5 | 72 => 69 | 76 => 122 | 51 => 142 | 146 => 143 | 53 => 145 | 148 => 146 | 70 => 66 | 37 => 67 | 75 => 121 | 127 => 106 | 164 => 133 | 80 => 73 | n => n, fun | n => n⟩
theorem Try.lays105 : Go.Proofs.Lays.n105 Try.prog Try.lays105_ren := {
 mixed := by kernel_rfl
 f99 := Try.func92.trans (congrArg some (by kernel_rfl))
 f105 := Try.func86.trans (congrArg some (by kernel_rfl))
 f165 := Try.func93.trans (congrArg some (by kernel_rfl))
 f166 := Try.func74.trans (congrArg some (by kernel_rfl))
 f169 := Try.func28.trans (congrArg some (by kernel_rfl))
 f170 := Try.func73.trans (congrArg some (by kernel_rfl))
 f206 := Try.func97.trans (congrArg some (by kernel_rfl))
 f212 := Try.func91.trans (congrArg some (by kernel_rfl))
 f240 := Try.func82.trans (congrArg some (by kernel_rfl))
 f241 := Try.func98.trans (congrArg some (by kernel_rfl))
 f263 := Try.func95.trans (congrArg some (by kernel_rfl))
 f264 := Try.func96.trans (congrArg some (by kernel_rfl))
 f276 := Try.func90.trans (congrArg some (by kernel_rfl))
 f277 := Try.func100.trans (congrArg some (by kernel_rfl))
 t0 := Try.underlying0
 a0 := Try.isAgg0
 z0 := Try.sizeOf0
 v0 := Try.zeroValue0
 t3 := Try.underlying3
 a3 := Try.isAgg3
 z3 := Try.sizeOf3
 v3 := Try.zeroValue3
 t4 := Try.underlying4
 a4 := Try.isAgg4
 z4 := Try.sizeOf4
 v4 := Try.zeroValue4
 t5 := Try.underlying5
 a5 := Try.isAgg5
 z5 := Try.sizeOf5
 v5 := Try.zeroValue5
 t9 := Try.underlying9
 a9 := Try.isAgg9
 z9 := Try.sizeOf9
 v9 := Try.zeroValue9
 t20 := Try.underlying20
 a20 := Try.isAgg20
 z20 := Try.sizeOf20
 v20 := Try.zeroValue20
 t37 := Try.underlying67
 a37 := Try.isAgg67
 z37 := Try.sizeOf67
 v37 := Try.zeroValue67
 t46 := Try.underlying136
 a46 := Try.isAgg136
 z46 := Try.sizeOf136
 v46 := Try.zeroValue136
 t51 := Try.underlying142
 a51 := Try.isAgg142
 z51 := Try.sizeOf142
 v51 := Try.zeroValue142
 t53 := Try.underlying145
 a53 := Try.isAgg145
 z53 := Try.sizeOf145
 v53 := Try.zeroValue145
 t70 := Try.underlying66
 a70 := Try.isAgg66
 z70 := Try.sizeOf66
 v70 := Try.zeroValue66
 t72 := Try.underlying69
 a72 := Try.isAgg69
 z72 := Try.sizeOf69
 v72 := Try.zeroValue69
 t75 := Try.underlying121
 a75 := Try.isAgg121
 z75 := Try.sizeOf121
 v75 := Try.zeroValue121
 t76 := Try.underlying122
 a76 := Try.isAgg122
 z76 := Try.sizeOf122
 v76 := Try.zeroValue122
 t109 := Try.underlying137
 a109 := Try.isAgg137
 z109 := Try.sizeOf137
 v109 := Try.zeroValue137
 t127 := Try.underlying106
 a127 := Try.isAgg106
 z127 := Try.sizeOf106
 v127 := Try.zeroValue106
 t146 := Try.underlying143
 a146 := Try.isAgg143
 z146 := Try.sizeOf143
 v146 := Try.zeroValue143
 t148 := Try.underlying146
 a148 := Try.isAgg146
 z148 := Try.sizeOf146
 v148 := Try.zeroValue146
 t164 := Try.underlying133
 a164 := Try.isAgg133
 z164 := Try.sizeOf133
 v164 := Try.zeroValue133 }
theorem Try.Builder_Extra_105 : Builder.Extra Try.prog Try.lays105_ren := {
 sizeBuilder := by kernel_rfl
 liesBuilder := by kernel_rfl
 t5 := Try.underlying5
 a5 := Try.isAgg5
 z5 := Try.sizeOf5
 v5 := Try.zeroValue5
 infoByte := by kernel_rfl
 cellsByte := by kernel_rfl
 sizeByte := by kernel_rfl
 neB5 := by decide }
theorem Try.lays166 : Go.Proofs.Lays.n166 Try.prog Try.lays105_ren := { Try.lays105 with }
theorem Try.lays169 : Go.Proofs.Lays.n169 Try.prog Try.lays105_ren := { Try.lays105 with }
theorem Try.lays170 : Go.Proofs.Lays.n170 Try.prog Try.lays105_ren := { Try.lays105 with }
end Go.Proofs
namespace Go.Ab
open Go.Proofs
theorem repeat_prim : ∀ ts r, repeatP ts = some r → CallOK Try.prog 86 ts r := repeatP_ok fun s c w h1 h2 => Any.strings_Repeat Try.lays105 Try.Builder_Extra_105 s c w h1 h2
def A_repeat : AFunc := ⟨2, [], .skip, some repeatP⟩
end Go.Ab
end
section
namespace Go.Ab
inductive JV where
 | mk (k c s : Int) (t : ByteArray) (is : List JV) (ks : List ByteArray)
 deriving Inhabited
mutual
def JV.enc : JV → FV
 | .mk k c s t is ks => .ag [.int .i64 k, .int .i64 c, .int .i64 s, .str t, .sl (JV.encs is), .sl (ks.map .str)]
def JV.encs : List JV → List FV
 | [] => []
 | v :: r => v.enc :: JV.encs r
end
theorem JV.encs_eq : ∀ l : List JV, JV.encs l = l.map JV.enc
 | [] => by simp [JV.encs]
 | v :: r => by simp [JV.encs, JV.encs_eq r]
theorem JV.enc_mk (k c s : Int) (t : ByteArray) (is : List JV) (ks : List ByteArray) : (JV.mk k c s t is ks).enc = .ag [.int .i64 k, .int .i64 c, .int .i64 s, .str t, .sl (is.map JV.enc), .sl (ks.map .str)] := by
 simp [JV.enc, JV.encs_eq]
@[simp] theorem JV.enc_fits (v : JV) : v.enc.fits 6 true = true := by
 obtain ⟨k, c, s, t, is, ks⟩ := v
 simp [JV.enc]
@[simp] theorem JV.all_fits (l : List JV) : (l.map JV.enc).all (FV.fits 6 true) = true := Ab.all_fits _ (fun v => v.enc_fits) l
def JV.k : JV → Int | .mk k _ _ _ _ _ => k
def JV.is : JV → List JV | .mk _ _ _ _ is _ => is
def JV.ks : JV → List ByteArray | .mk _ _ _ _ _ ks => ks
inductive JV.Sm : JV → Prop where
  | mk {k c s : Int} {t : ByteArray} {is : List JV} {ks : List ByteArray} (hi : is.length ≤ 1152921504606846976) (hk : ks.length ≤ 1152921504606846976) (h : ∀ v ∈ is, v.Sm) : (JV.mk k c s t is ks).Sm
theorem drop_cons {α : Type} {l : List α} {i : Nat} (h : i < l.length) : l.drop i = l[i] :: l.drop (i + 1) := List.drop_eq_getElem_cons h
theorem decide_cons {α : Type} [DecidableEq α] (a b : α) (l m : List α) : decide (a :: l = b :: m) = (decide (a = b) && decide (l = m)) := by
 by_cases h1 : a = b <;> by_cases h2 : l = m <;> simp [h1, h2]
end Go.Ab
end
section
namespace Go.Ab
def cont : Nat → Int → List UInt8 → Option Int
 | 0, c, _ => some c
 | _ + 1, _, [] => none
 | n + 1, c, d :: r => if 128 ≤ d.toNat ∧ d.toNat ≤ 191 then cont n (64 * c + (d.toNat : Int) - 128) r else none
def putB (c : Int) : List Int :=
 if c < 128 then [c] else if c < 2048 then [192 + c / 64, 128 + c % 64] else if c < 65536 then [224 + c / 4096, 128 + c / 64 % 64, 128 + c % 64] else [240 + c / 262144, 128 + c / 4096 % 64, 128 + c / 64 % 64, 128 + c % 64]
def headC (b : Nat) : Int := if 240 ≤ b ∧ b < 248 then (b : Int) - 240 else if 224 ≤ b then (b : Int) - 224 else if 192 ≤ b then (b : Int) - 192 else b
def headN (b : Nat) : Nat := if 240 ≤ b ∧ b < 248 then 4 else if 224 ≤ b then 3 else if 192 ≤ b then 2 else 1
def toB (l : List Int) : List UInt8 := l.map fun e => UInt8.ofNat e.toNat
def sgn : List UInt8 → Option (Int × Nat)
  | [] => none
  | b :: r =>
    if 248 ≤ b.toNat ∨ (128 ≤ b.toNat ∧ b.toNat < 192) ∨ r.length + 1 < headN b.toNat then none
    else match cont (headN b.toNat - 1) (headC b.toNat) r with
      | none => none
      | some c => if 1114111 < c ∨ (55296 ≤ c ∧ c < 57344) ∨ toB (putB c) ≠ (b :: r).take (headN b.toNat) then none else some (c, headN b.toNat)
def signsN : Nat → List UInt8 → Option (List Int)
 | _, [] => some []
 | 0, _ :: _ => none
 | n + 1, b :: r => match sgn (b :: r) with
  | none => none
  | some (c, k) => (signsN n ((b :: r).drop k)).map (c :: ·)
def signsL (l : List UInt8) : Option (List Int) := signsN l.length l
theorem headN_le (b : Nat) : 1 ≤ headN b ∧ headN b ≤ 4 := by unfold headN; split <;> (try split) <;> (try split) <;> omega
theorem headC_le {b : Nat} (h : b < 248) : 0 ≤ headC b ∧ headC b ≤ 191 := by unfold headC; split <;> (try split) <;> (try split) <;> omega
theorem cont_nonneg : ∀ (n : Nat) (c : Int) (l : List UInt8) (c' : Int), 0 ≤ c → cont n c l = some c' → 0 ≤ c'
 | 0, c, _, c', h, e => by simp only [cont, Option.some.injEq] at e; omega
 | n + 1, c, [], c', h, e => by cases e
 | n + 1, c, d :: r, c', h, e => by
  simp only [cont] at e
  split at e
  ·exact cont_nonneg n _ r c' (by omega) e
  ·cases e
theorem wrap8 {n : Int} (h1 : 0 ≤ n) (h2 : n ≤ 255) : IntKind.wrap .u8 n = n := by
 simp only [IntKind.wrap]
 have : IntKind.bits .u8 = 8 := rfl
 have hs : IntKind.signed .u8 = false := rfl
 simp only [this, hs]
 simp
 omega
theorem put3_ok {c : Int} (h0 : 0 ≤ c) (h1 : c ≤ 1114111) : Rt0 N_ref03_Put [.fz (.int .i64 c)] = some ([.fz (.sl ((putB c).map (.int .u8)))], []) := by
 refine rt_call0 A_ref03_Put rfl rfl 0 ?_
 rw [E_ref03_Put]
 have t1 : Int.tdiv c 64 = c / 64 := Int.tdiv_eq_ediv_of_nonneg h0
 have t2 : Int.tdiv c 4096 = c / 4096 := Int.tdiv_eq_ediv_of_nonneg h0
 have t3 : Int.tdiv c 262144 = c / 262144 := Int.tdiv_eq_ediv_of_nonneg h0
 have t4 : Int.tmod c 64 = c % 64 := Int.tmod_eq_emod_of_nonneg h0
 have w1 : IntKind.wrap .i64 (c / 64) = c / 64 := wrap64 (by omega) (by omega)
 have w2 : IntKind.wrap .i64 (c / 4096) = c / 4096 := wrap64 (by omega) (by omega)
 have w3 : IntKind.wrap .i64 (c / 262144) = c / 262144 := wrap64 (by omega) (by omega)
 have t5 : Int.tmod (c / 64) 64 = c / 64 % 64 := Int.tmod_eq_emod_of_nonneg (by omega)
 have t6 : Int.tmod (c / 4096) 64 = c / 4096 % 64 := Int.tmod_eq_emod_of_nonneg (by omega)
 rw [t1, t2, t3, t4, w1, w2, w3, t5, t6]
 have v1 : IntKind.wrap .i64 (128 + c % 64) = 128 + c % 64 := wrap64 (by omega) (by omega)
 have v2 : IntKind.wrap .i64 (128 + c / 64 % 64) = 128 + c / 64 % 64 := wrap64 (by omega) (by omega)
 have v3 : IntKind.wrap .i64 (128 + c / 4096 % 64) = 128 + c / 4096 % 64 := wrap64 (by omega) (by omega)
 have v4 : IntKind.wrap .i64 (192 + c / 64) = 192 + c / 64 := wrap64 (by omega) (by omega)
 have v5 : IntKind.wrap .i64 (224 + c / 4096) = 224 + c / 4096 := wrap64 (by omega) (by omega)
 have v6 : IntKind.wrap .i64 (240 + c / 262144) = 240 + c / 262144 := wrap64 (by omega) (by omega)
 rw [v1, v2, v3, v4, v5, v6]
 have x1 : IntKind.wrap .u8 (128 + c % 64) = 128 + c % 64 := wrap8 (by omega) (by omega)
 have x2 : IntKind.wrap .u8 (128 + c / 64 % 64) = 128 + c / 64 % 64 := wrap8 (by omega) (by omega)
 have x3 : IntKind.wrap .u8 (128 + c / 4096 % 64) = 128 + c / 4096 % 64 := wrap8 (by omega) (by omega)
 have x6 : IntKind.wrap .u8 (240 + c / 262144) = 240 + c / 262144 := wrap8 (by omega) (by omega)
 unfold putB
 by_cases a1 : c < 128
 ·have y : IntKind.wrap .u8 c = c := wrap8 (by omega) (by omega)
  simp [a1, y]
 ·by_cases a2 : c < 2048
  ·have x4 : IntKind.wrap .u8 (192 + c / 64) = 192 + c / 64 := wrap8 (by omega) (by omega)
   simp [a1, a2, x4, x1]
  ·by_cases a3 : c < 65536
   ·have x5 : IntKind.wrap .u8 (224 + c / 4096) = 224 + c / 4096 := wrap8 (by omega) (by omega)
    simp [a1, a2, a3, x5, x2, x1]
   ·simp [a1, a2, a3, x6, x3, x2, x1]
theorem bytes_size (s : ByteArray) : s.data.toList.length = s.size := by rw [Array.length_toList]; rfl
theorem byteAt {s : ByteArray} {i : Nat} (h : i < s.data.toList.length) : Array.getD s.data i 0 = s.data.toList[i] := by
 have : i < s.data.size := by simpa using h
 unfold Array.getD
 rw [dif_pos this]
 simp
theorem extract_list (s : ByteArray) (a b : Nat) : (ByteArray.extract s a b).toList = (s.data.toList.take b).drop a := by
 rw [ByteArray.toList_eq, ByteArray.data_extract]
 simp [Array.toList_extract, List.extract_eq_take_drop, List.drop_take]
theorem u8_le (b : UInt8) : b.toNat ≤ 255 := by have := b.toNat_lt; omega
section
variable (s : ByteArray) (hs : s.size ≤ 8796093022208)
include hs
theorem inner1 (K n : Nat) (acc : List Int) : ∀ (j f i nn kk : Nat) (c : Int), j < f → kk + j = nn → nn ≤ 4 → i + nn ≤ s.size → 0 ≤ c → (c + 1) * (64 ^ j : Nat) ≤ 1099511627776 →
   onL (L_ref03_Signs_1_1 Rt0 K true f s i nn c kk (acc.map (.int .i64))) (K_ref03_Signs_1 Rt0 K true n) = (match cont j c (s.data.toList.drop (i + kk)) with
     | some c' => K_ref03_Signs_1 Rt0 K true n (.exit 2) (X_ref03_Signs_1_3 s i nn c' (acc.map (.int .i64)))
     | none => some (.ret, X_ref03_Signs_2_3 false (acc.map (.int .i64)))) := by
 intro j
 have hbs := bytes_size s
 induction j with
 | zero =>
   intro f i nn kk c hf h1 h2 h3 h4 h5
   obtain ⟨f, rfl⟩ : ∃ m, f = m + 1 := ⟨f - 1, by omega⟩
   rw [L_ref03_Signs_1_1_eq]
   have : decide ((kk : Int) < (nn : Int)) = false := by simp; omega
   simp only [this, ifB_false, onL_some, cont]
 | succ j jh =>
   intro f i nn kk c hf h1 h2 h3 h4 h5
   obtain ⟨f, rfl⟩ : ∃ m, f = m + 1 := ⟨f - 1, by omega⟩
   have hc : c ≤ 1099511627776 := by
     have h0 : (1 : Int) ≤ ((64 ^ (j + 1) : Nat) : Int) := by
       have := Nat.pow_pos (n := j + 1) (show 0 < 64 by omega)
       omega
     have := Int.mul_le_mul_of_nonneg_left h0 (show 0 ≤ c + 1 by omega)
     omega
   have hl : i + kk < s.data.toList.length := by omega
   rw [L_ref03_Signs_1_1_eq, drop_cons hl]
   have e1 : decide ((kk : Int) < (nn : Int)) = true := by simp; omega
   have e2 : IntKind.wrap .i64 ((i : Int) + (kk : Int)) = ((i + kk : Nat) : Int) := by rw [wrap64 (by omega) (by omega)]; omega
   have e3 : decide (((i + kk : Nat) : Int) < (s.size : Int)) = true := by simp; omega
   have e4 : decide ((0 : Int) ≤ ((i + kk : Nat) : Int)) = true := by simp; omega
   simp only [e1, e2, e3, e4, ifB_true, Bool.and_true, when_true', Int.toNat_natCast, byteAt hl]
   generalize s.data.toList[i + kk] = d
   have hd := u8_le d
   have e5 : IntKind.wrap .i64 ((d.toNat : Nat) : Int) = (d.toNat : Int) := wrap64 (by omega) (by omega)
   simp only [e5, cont]
   by_cases h : 128 ≤ d.toNat ∧ d.toNat ≤ 191
   · have a1 : decide (((d.toNat : Nat) : Int) < 128) = false := by simp; omega
     have a2 : decide (((d.toNat : Nat) : Int) > 191) = false := by simp; omega
     have w1 : IntKind.wrap .i64 (64 * c) = 64 * c := wrap64 (by omega) (by omega)
     have w2 : IntKind.wrap .i64 (64 * c + (d.toNat : Int)) = 64 * c + (d.toNat : Int) := wrap64 (by omega) (by omega)
     have w3 : IntKind.wrap .i64 (64 * c + (d.toNat : Int) - 128) = 64 * c + (d.toNat : Int) - 128 := wrap64 (by omega) (by omega)
     have w4 : IntKind.wrap .i64 ((kk : Int) + 1) = ((kk + 1 : Nat) : Int) := by rw [wrap64 (by omega) (by omega)]; omega
     have hstep : (64 * c + (d.toNat : Int) - 128 + 1) * ((64 ^ j : Nat) : Int) ≤ 1099511627776 := by
       rw [Nat.pow_succ, Int.natCast_mul, show ((64 : Nat) : Int) = 64 from rfl] at h5
       have hp : (0 : Int) ≤ ((64 ^ j : Nat) : Int) := Int.natCast_nonneg _
       generalize ((64 ^ j : Nat) : Int) = p at h5 hp
       have := Int.mul_le_mul_of_nonneg_right (show 64 * c + (d.toNat : Int) - 128 + 1 ≤ (c + 1) * 64 by omega) hp
       rw [Int.mul_assoc, Int.mul_comm 64 p] at this
       exact Int.le_trans this h5
     have := jh f i nn (kk + 1) (64 * c + (d.toNat : Int) - 128) (by omega) (by omega) h2 h3 (by omega) hstep
     simp only [a1, a2, ifB_false, jump_true, J_ref03_Signs_2_1_eq, w1, w2, w3, w4, if_pos h]
     rw [show i + kk + 1 = i + (kk + 1) by omega]
     exact this
   · rw [if_neg h]
     by_cases h' : d.toNat < 128
     · have a1 : decide (((d.toNat : Nat) : Int) < 128) = true := by simp; omega
       simp only [a1, ifB_true, onL_some, X_ref03_Signs_1_2_eq]
     · have a1 : decide (((d.toNat : Nat) : Int) < 128) = false := by simp; omega
       have a2 : decide (((d.toNat : Nat) : Int) > 191) = true := by simp; omega
       simp only [a1, a2, ifB_true, ifB_false, onL_some, X_ref03_Signs_1_2_eq]
theorem signs_last1 (K n : Nat) (acc : List Int) (hacc : acc.length ≤ 8796093022208) (i nn : Nat) (c : Int) (h0 : 0 ≤ c) (hi : i + nn ≤ s.size) :
   K_ref03_Signs_1 Rt0 K true n (.exit 2) (X_ref03_Signs_1_3 s i nn c (acc.map (.int .i64))) = (if 1114111 < c ∨ (55296 ≤ c ∧ c < 57344) ∨ toB (putB c) ≠ (s.data.toList.drop i).take nn then some (.ret, X_ref03_Signs_2_3 false (acc.map (.int .i64))) else L_ref03_Signs_2_1 Rt0 K true n s ((i + nn : Nat) : Int) ((acc ++ [c]).map (.int .i64))) := by
 rw [X_ref03_Signs_1_3_eq]
 have ew : IntKind.wrap .i64 ((i : Int) + (nn : Int)) = ((i + nn : Nat) : Int) := by rw [wrap64 (by omega) (by omega)]; omega
 have ex : (s.data.toList.take (i + nn)).drop i = (s.data.toList.drop i).take nn := by rw [List.drop_take]; congr 1; omega
 have tail : 1114111 ≥ c → onR (Rt0 N_ref03_Put [.fz (.int .i64 c)]) (fun r0 => when (List.isEmpty r0.2 && allF [.fz] r0.1) (when ((FV.isSl (TV.toF (List.getD r0.1 0 TV.em))) && (List.all (FV.toSl (TV.toF (List.getD r0.1 0 TV.em))) (FV.fits 1 false))) (when (List.all (FV.toSl (TV.toF (List.getD r0.1 0 TV.em))) (FV.isInt .u8)) (when (decide (0 ≤ (IntKind.wrap .i64 ((i : Int) + (nn : Int)))) && decide ((IntKind.wrap .i64 ((i : Int) + (nn : Int))) ≤ (ByteArray.size s : Int))) (when (decide (0 ≤ (i : Int)) && decide ((i : Int) ≤ (IntKind.wrap .i64 ((i : Int) + (nn : Int))))) (ifB (!(ByteArray.toList (⟨(List.map (fun e => UInt8.ofNat (FV.toInt e).toNat) (FV.toSl (TV.toF (List.getD r0.1 0 TV.em)))).toArray⟩ : ByteArray) == ByteArray.toList (ByteArray.extract s (Int.toNat (i : Int)) (Int.toNat (IntKind.wrap .i64 ((i : Int) + (nn : Int)))))))
     (some (.ret, X_ref03_Signs_2_3 false (acc.map (.int .i64)))) (jump true (J_ref03_Signs_4_1 Rt0 K true n s i nn c (acc.map (.int .i64)))))))))) = (if toB (putB c) ≠ (s.data.toList.drop i).take nn then some (.ret, X_ref03_Signs_2_3 false (acc.map (.int .i64))) else L_ref03_Signs_2_1 Rt0 K true n s ((i + nn : Nat) : Int) ((acc ++ [c]).map (.int .i64))) := fun h1 => by
   rw [put3_ok h0 h1, onR_some, ew]
   have g1 : decide ((0 : Int) ≤ ((i + nn : Nat) : Int)) = true := by simp; omega
   have g2 : decide (((i + nn : Nat) : Int) ≤ (s.size : Int)) = true := by simp; omega
   have g3 : decide ((0 : Int) ≤ (i : Int)) = true := by simp
   have g4 : decide ((i : Int) ≤ ((i + nn : Nat) : Int)) = true := by simp; omega
   have g5 : (List.all ((putB c).map (FV.int .u8)) (FV.isInt .u8)) = true := by simp
   have g6 : List.map (fun e => UInt8.ofNat (FV.toInt e).toNat) ((putB c).map (FV.int .u8)) = toB (putB c) := by simp [toB, FV.toInt]
   have g7 : (⟨(toB (putB c)).toArray⟩ : ByteArray).toList = toB (putB c) := by rw [ByteArray.toList_eq]
   simp only [List.isEmpty_nil, allF_cons, allF_nil, Bool.and_true, when_true', List.getD_cons_zero, toF_fz, isSl_sl, toSl_sl, all_fits_int, g1, g2, g3, g4, g5, g6, g7, Int.toNat_natCast, extract_list, ex]
   by_cases h : toB (putB c) = (s.data.toList.drop i).take nn
   · have : (toB (putB c) == (s.data.toList.drop i).take nn) = true := by simpa using h
     rw [if_neg (by simpa using h)]
     have r1 : decide ((List.length (acc.map (FV.int .i64)) + List.length [FV.int .i64 c]) * 8 ≤ roomy) = true := by first | (simp [roomy]; done) | (simp [roomy]; omega)
     have r2 : decide (List.length (acc.map (FV.int .i64)) + List.length [FV.int .i64 c] ≤ roomy) = true := by first | (simp [roomy]; done) | (simp [roomy]; omega)
     simp only [this, Bool.not_true, ifB_false, jump_true, J_ref03_Signs_4_1_eq, ew, r1, r2, Bool.and_true, when_true']
     rw [List.map_append]; exact Eq.refl _
   · have : (toB (putB c) == (s.data.toList.drop i).take nn) = false := by simpa using h
     rw [if_pos (by simpa using h)]
     simp only [this, Bool.not_false, ifB_true]
 by_cases h1 : c ≤ 1114111
 · have a1 : decide (c > 1114111) = false := by simp; omega
   by_cases h2 : 55296 ≤ c
   · have a2 : decide (c ≥ 55296) = true := by simp; omega
     by_cases h3 : c < 57344
     · have a3 : decide (c < 57344) = true := by simp; omega
       rw [if_pos (.inr (.inl ⟨h2, h3⟩))]
       simp only [a1, a2, a3, ifB_false, ifB_true]
     · have a3 : decide (c < 57344) = false := by simp; omega
       have : (1114111 < c ∨ (55296 ≤ c ∧ c < 57344) ∨ toB (putB c) ≠ (s.data.toList.drop i).take nn) ↔ toB (putB c) ≠ (s.data.toList.drop i).take nn := ⟨fun h => by rcases h with h | h | h <;> first | exact h | omega, fun h => .inr (.inr h)⟩
       simp only [a1, a2, a3, ifB_false, ifB_true, this]
       exact tail h1
   · have a2 : decide (c ≥ 55296) = false := by simp; omega
     have : (1114111 < c ∨ (55296 ≤ c ∧ c < 57344) ∨ toB (putB c) ≠ (s.data.toList.drop i).take nn) ↔ toB (putB c) ≠ (s.data.toList.drop i).take nn := ⟨fun h => by rcases h with h | h | h <;> first | exact h | omega, fun h => .inr (.inr h)⟩
     simp only [a1, a2, ifB_false, this]
     exact tail h1
 · have a1 : decide (c > 1114111) = true := by simp; omega
   rw [if_pos (.inl (by omega))]
   simp only [a1, ifB_true]
theorem signs_round1 (K n : Nat) (hK : 5 ≤ K) (acc : List Int) (hacc : acc.length ≤ 8796093022208) (i : Nat) (hi : i < s.data.toList.length) :
   L_ref03_Signs_2_1 Rt0 K true (n + 1) s i (acc.map (.int .i64)) = (match sgn (s.data.toList.drop i) with
     | some (c, k) => L_ref03_Signs_2_1 Rt0 K true n s ((i + k : Nat) : Int) ((acc ++ [c]).map (.int .i64))
     | none => some (.ret, X_ref03_Signs_2_3 false (acc.map (.int .i64)))) := by
 have hbs := bytes_size s
 rw [L_ref03_Signs_2_1_eq, drop_cons hi]
 have e1 : decide ((i : Int) < (s.size : Int)) = true := by simp; omega
 have e2 : decide ((0 : Int) ≤ (i : Int)) = true := by simp
 simp only [e1, e2, ifB_true, Bool.and_true, when_true', Int.toNat_natCast, byteAt hi]
 have hdr : s.data.toList.drop i = s.data.toList[i] :: s.data.toList.drop (i + 1) := drop_cons hi
 have hlen : (s.data.toList.drop (i + 1)).length + 1 + i = s.size := by rw [List.length_drop]; omega
 generalize s.data.toList[i] = b at *
 have hb := u8_le b
 have e5 : IntKind.wrap .i64 ((b.toNat : Nat) : Int) = (b.toNat : Int) := wrap64 (by omega) (by omega)
 simp only [e5]
 have hN := headN_le b.toNat
 have j7 : (ifB (decide ((b.toNat : Int) ≥ 240)) (jump true (J_ref03_Signs_1_1 Rt0 K true n s i (b.toNat : Int) 1 (b.toNat : Int) (decide ((b.toNat : Int) < 248)) (acc.map (.int .i64)))) (jump true (J_ref03_Signs_1_1 Rt0 K true n s i (b.toNat : Int) 1 (b.toNat : Int) false (acc.map (.int .i64))))) = J_ref03_Signs_7_1 Rt0 K true n s i (b.toNat : Int) (headN b.toNat) (headC b.toNat) (acc.map (.int .i64)) := by
   unfold headN headC
   have w1 : 240 ≤ b.toNat → IntKind.wrap .i64 ((b.toNat : Int) - 240) = (b.toNat : Int) - 240 := fun _ => wrap64 (by omega) (by omega)
   have w2 : IntKind.wrap .i64 ((b.toNat : Int) - 224) = (b.toNat : Int) - 224 := wrap64 (by omega) (by omega)
   have w3 : IntKind.wrap .i64 ((b.toNat : Int) - 192) = (b.toNat : Int) - 192 := wrap64 (by omega) (by omega)
   by_cases h1 : 240 ≤ b.toNat
   · have a1 : decide ((b.toNat : Int) ≥ 240) = true := by simp; omega
     have a3 : decide ((b.toNat : Int) ≥ 224) = true := by simp; omega
     by_cases h2 : b.toNat < 248
     · have a2 : decide ((b.toNat : Int) < 248) = true := by simp; omega
       simp only [a1, a2, ifB_true, jump_true, J_ref03_Signs_1_1_eq, w1 h1, if_pos (show 240 ≤ b.toNat ∧ b.toNat < 248 from ⟨h1, h2⟩)]
       exact Eq.refl _
     · have a2 : decide ((b.toNat : Int) < 248) = false := by simp; omega
       simp only [a1, a2, a3, ifB_true, ifB_false, jump_true, J_ref03_Signs_1_1_eq, w2, if_neg (show ¬ (240 ≤ b.toNat ∧ b.toNat < 248) by omega), if_pos (show 224 ≤ b.toNat by omega)]
       exact Eq.refl _
   · have a1 : decide ((b.toNat : Int) ≥ 240) = false := by simp; omega
     rw [if_neg (show ¬ (240 ≤ b.toNat ∧ b.toNat < 248) by omega), if_neg (show ¬ (240 ≤ b.toNat ∧ b.toNat < 248) by omega)]
     by_cases h3 : 224 ≤ b.toNat
     · have a3 : decide ((b.toNat : Int) ≥ 224) = true := by simp; omega
       simp only [a1, a3, ifB_true, ifB_false, jump_true, J_ref03_Signs_1_1_eq, w2, if_pos h3]
       exact Eq.refl _
     · have a3 : decide ((b.toNat : Int) ≥ 224) = false := by simp; omega
       by_cases h4 : 192 ≤ b.toNat
       · have a4 : decide ((b.toNat : Int) ≥ 192) = true := by simp; omega
         simp only [a1, a3, a4, ifB_true, ifB_false, jump_true, J_ref03_Signs_1_1_eq, w3, if_neg h3, if_pos h4]
         exact Eq.refl _
       · have a4 : decide ((b.toNat : Int) ≥ 192) = false := by simp; omega
         simp only [a1, a3, a4, ifB_true, ifB_false, jump_true, J_ref03_Signs_1_1_eq, if_neg h3, if_neg h4]
         exact Eq.refl _
 rw [j7, J_ref03_Signs_7_1_eq]
 have ew : IntKind.wrap .i64 ((i : Int) + (headN b.toNat : Int)) = ((i + headN b.toNat : Nat) : Int) := by rw [wrap64 (by omega) (by omega)]; omega
 simp only [sgn]
 by_cases h1 : 248 ≤ b.toNat
 · have a1 : decide ((b.toNat : Int) ≥ 248) = true := by simp; omega
   rw [if_pos (.inl h1)]
   simp only [a1, ifB_true]
 · have a1 : decide ((b.toNat : Int) ≥ 248) = false := by simp; omega
   by_cases h2 : 128 ≤ b.toNat ∧ b.toNat < 192
   · have a2 : decide ((b.toNat : Int) ≥ 128) = true := by simp; omega
     have a3 : decide ((b.toNat : Int) < 192) = true := by simp; omega
     rw [if_pos (.inr (.inl h2))]
     simp only [a1, a2, a3, ifB_true, ifB_false]
   · by_cases h3 : (s.data.toList.drop (i + 1)).length + 1 < headN b.toNat
     · have a4 : decide (((i + headN b.toNat : Nat) : Int) > (s.size : Int)) = true := by simp; omega
       rw [if_pos (.inr (.inr h3))]
       by_cases h4 : 128 ≤ b.toNat
       · have a2 : decide ((b.toNat : Int) ≥ 128) = true := by simp; omega
         have a3 : decide ((b.toNat : Int) < 192) = false := by simp; omega
         simp only [a1, a2, a3, ew, a4, ifB_true, ifB_false]
       · have a2 : decide ((b.toNat : Int) ≥ 128) = false := by simp; omega
         simp only [a1, a2, ew, a4, ifB_true, ifB_false]
     · have a4 : decide (((i + headN b.toNat : Nat) : Int) > (s.size : Int)) = false := by simp; omega
       rw [if_neg (by rintro (h | h | h); exact h1 h; exact h2 h; exact h3 h)]
       have j6 : J_ref03_Signs_6_1 Rt0 K true n s i (headN b.toNat) (headC b.toNat) (acc.map (.int .i64)) = (match (match cont (headN b.toNat - 1) (headC b.toNat) (s.data.toList.drop (i + 1)) with
           | none => none
           | some c => if 1114111 < c ∨ (55296 ≤ c ∧ c < 57344) ∨ toB (putB c) ≠ (b :: s.data.toList.drop (i + 1)).take (headN b.toNat) then none else some (c, headN b.toNat)) with
           | some (c, k) => L_ref03_Signs_2_1 Rt0 K true n s ((i + k : Nat) : Int) ((acc ++ [c]).map (.int .i64))
           | none => some (.ret, X_ref03_Signs_2_3 false (acc.map (.int .i64)))) := by
         obtain ⟨K', rfl⟩ : ∃ m, K = m + 5 := ⟨K - 5, by omega⟩
         rw [J_ref03_Signs_6_1_eq]
         have hc := headC_le (show b.toNat < 248 by omega)
         have hp : (headC b.toNat + 1) * ((64 ^ (headN b.toNat - 1) : Nat) : Int) ≤ 1099511627776 := by
           have : ((64 ^ (headN b.toNat - 1) : Nat) : Int) ≤ 262144 := by
             have := Nat.pow_le_pow_right (show 0 < 64 by omega) (show headN b.toNat - 1 ≤ 3 by omega)
             omega
           have := Int.mul_le_mul_of_nonneg_left this (show 0 ≤ headC b.toNat + 1 by omega)
           omega
         have := inner1 s hs (K' + 5) n acc (headN b.toNat - 1) (K' + 5) i (headN b.toNat) 1 (headC b.toNat) (by omega) (by omega) hN.2 (by omega) hc.1 hp
         rw [show ((1 : Nat) : Int) = 1 from rfl] at this
         rw [this]
         cases hct : cont (headN b.toNat - 1) (headC b.toNat) (s.data.toList.drop (i + 1)) with
         | none => simp only []
         | some c =>
           have h0 := cont_nonneg _ _ _ _ hc.1 hct
           simp only []
           rw [signs_last1 s hs (K' + 5) n acc hacc i (headN b.toNat) c h0 (by omega), hdr]
           split
           · simp only []
           · simp only []
       by_cases h4 : 128 ≤ b.toNat
       · have a2 : decide ((b.toNat : Int) ≥ 128) = true := by simp; omega
         have a3 : decide ((b.toNat : Int) < 192) = false := by simp; omega
         simp only [a1, a2, a3, ew, a4, ifB_true, ifB_false, jump_true]
         exact j6
       · have a2 : decide ((b.toNat : Int) ≥ 128) = false := by simp; omega
         simp only [a1, a2, ew, a4, ifB_true, ifB_false, jump_true]
         exact j6
theorem inner0 (K n : Nat) : ∀ (j f i nn kk : Nat) (c : Int), j < f → kk + j = nn → nn ≤ 4 → i + nn ≤ s.size → 0 ≤ c → (c + 1) * (64 ^ j : Nat) ≤ 1099511627776 →
   onL (L_ref03_Signs_1_0 Rt0 K true f s i nn c kk) (K_ref03_Signs_1 Rt0 K true n) = (match cont j c (s.data.toList.drop (i + kk)) with
     | some c' => K_ref03_Signs_1 Rt0 K true n (.exit 2) (X_ref03_Signs_1_1 s i nn c')
     | none => some (.ret, X_ref03_Signs_2_1 false)) := by
 intro j
 have hbs := bytes_size s
 induction j with
 | zero =>
   intro f i nn kk c hf h1 h2 h3 h4 h5
   obtain ⟨f, rfl⟩ : ∃ m, f = m + 1 := ⟨f - 1, by omega⟩
   rw [L_ref03_Signs_1_0_eq]
   have : decide ((kk : Int) < (nn : Int)) = false := by simp; omega
   simp only [this, ifB_false, onL_some, cont]
 | succ j jh =>
   intro f i nn kk c hf h1 h2 h3 h4 h5
   obtain ⟨f, rfl⟩ : ∃ m, f = m + 1 := ⟨f - 1, by omega⟩
   have hc : c ≤ 1099511627776 := by
     have h0 : (1 : Int) ≤ ((64 ^ (j + 1) : Nat) : Int) := by
       have := Nat.pow_pos (n := j + 1) (show 0 < 64 by omega)
       omega
     have := Int.mul_le_mul_of_nonneg_left h0 (show 0 ≤ c + 1 by omega)
     omega
   have hl : i + kk < s.data.toList.length := by omega
   rw [L_ref03_Signs_1_0_eq, drop_cons hl]
   have e1 : decide ((kk : Int) < (nn : Int)) = true := by simp; omega
   have e2 : IntKind.wrap .i64 ((i : Int) + (kk : Int)) = ((i + kk : Nat) : Int) := by rw [wrap64 (by omega) (by omega)]; omega
   have e3 : decide (((i + kk : Nat) : Int) < (s.size : Int)) = true := by simp; omega
   have e4 : decide ((0 : Int) ≤ ((i + kk : Nat) : Int)) = true := by simp; omega
   simp only [e1, e2, e3, e4, ifB_true, Bool.and_true, when_true', Int.toNat_natCast, byteAt hl]
   generalize s.data.toList[i + kk] = d
   have hd := u8_le d
   have e5 : IntKind.wrap .i64 ((d.toNat : Nat) : Int) = (d.toNat : Int) := wrap64 (by omega) (by omega)
   simp only [e5, cont]
   by_cases h : 128 ≤ d.toNat ∧ d.toNat ≤ 191
   · have a1 : decide (((d.toNat : Nat) : Int) < 128) = false := by simp; omega
     have a2 : decide (((d.toNat : Nat) : Int) > 191) = false := by simp; omega
     have w1 : IntKind.wrap .i64 (64 * c) = 64 * c := wrap64 (by omega) (by omega)
     have w2 : IntKind.wrap .i64 (64 * c + (d.toNat : Int)) = 64 * c + (d.toNat : Int) := wrap64 (by omega) (by omega)
     have w3 : IntKind.wrap .i64 (64 * c + (d.toNat : Int) - 128) = 64 * c + (d.toNat : Int) - 128 := wrap64 (by omega) (by omega)
     have w4 : IntKind.wrap .i64 ((kk : Int) + 1) = ((kk + 1 : Nat) : Int) := by rw [wrap64 (by omega) (by omega)]; omega
     have hstep : (64 * c + (d.toNat : Int) - 128 + 1) * ((64 ^ j : Nat) : Int) ≤ 1099511627776 := by
       rw [Nat.pow_succ, Int.natCast_mul, show ((64 : Nat) : Int) = 64 from rfl] at h5
       have hp : (0 : Int) ≤ ((64 ^ j : Nat) : Int) := Int.natCast_nonneg _
       generalize ((64 ^ j : Nat) : Int) = p at h5 hp
       have := Int.mul_le_mul_of_nonneg_right (show 64 * c + (d.toNat : Int) - 128 + 1 ≤ (c + 1) * 64 by omega) hp
       rw [Int.mul_assoc, Int.mul_comm 64 p] at this
       exact Int.le_trans this h5
     have := jh f i nn (kk + 1) (64 * c + (d.toNat : Int) - 128) (by omega) (by omega) h2 h3 (by omega) hstep
     simp only [a1, a2, ifB_false, jump_true, J_ref03_Signs_2_0_eq, w1, w2, w3, w4, if_pos h]
     rw [show i + kk + 1 = i + (kk + 1) by omega]
     exact this
   · rw [if_neg h]
     by_cases h' : d.toNat < 128
     · have a1 : decide (((d.toNat : Nat) : Int) < 128) = true := by simp; omega
       simp only [a1, ifB_true, onL_some, X_ref03_Signs_1_0_eq]
     · have a1 : decide (((d.toNat : Nat) : Int) < 128) = false := by simp; omega
       have a2 : decide (((d.toNat : Nat) : Int) > 191) = true := by simp; omega
       simp only [a1, a2, ifB_true, ifB_false, onL_some, X_ref03_Signs_1_0_eq]
theorem signs_last0 (K n : Nat) (hacc : 0 ≤ 8796093022208) (i nn : Nat) (c : Int) (h0 : 0 ≤ c) (hi : i + nn ≤ s.size) :
   K_ref03_Signs_1 Rt0 K true n (.exit 2) (X_ref03_Signs_1_1 s i nn c) = (if 1114111 < c ∨ (55296 ≤ c ∧ c < 57344) ∨ toB (putB c) ≠ (s.data.toList.drop i).take nn then some (.ret, X_ref03_Signs_2_1 false) else L_ref03_Signs_2_1 Rt0 K true n s ((i + nn : Nat) : Int) ([.int .i64 c])) := by
 rw [X_ref03_Signs_1_1_eq]
 have ew : IntKind.wrap .i64 ((i : Int) + (nn : Int)) = ((i + nn : Nat) : Int) := by rw [wrap64 (by omega) (by omega)]; omega
 have ex : (s.data.toList.take (i + nn)).drop i = (s.data.toList.drop i).take nn := by rw [List.drop_take]; congr 1; omega
 have tail : 1114111 ≥ c → onR (Rt0 N_ref03_Put [.fz (.int .i64 c)]) (fun r0 => when (List.isEmpty r0.2 && allF [.fz] r0.1) (when ((FV.isSl (TV.toF (List.getD r0.1 0 TV.em))) && (List.all (FV.toSl (TV.toF (List.getD r0.1 0 TV.em))) (FV.fits 1 false))) (when (List.all (FV.toSl (TV.toF (List.getD r0.1 0 TV.em))) (FV.isInt .u8)) (when (decide (0 ≤ (IntKind.wrap .i64 ((i : Int) + (nn : Int)))) && decide ((IntKind.wrap .i64 ((i : Int) + (nn : Int))) ≤ (ByteArray.size s : Int))) (when (decide (0 ≤ (i : Int)) && decide ((i : Int) ≤ (IntKind.wrap .i64 ((i : Int) + (nn : Int))))) (ifB (!(ByteArray.toList (⟨(List.map (fun e => UInt8.ofNat (FV.toInt e).toNat) (FV.toSl (TV.toF (List.getD r0.1 0 TV.em)))).toArray⟩ : ByteArray) == ByteArray.toList (ByteArray.extract s (Int.toNat (i : Int)) (Int.toNat (IntKind.wrap .i64 ((i : Int) + (nn : Int)))))))
     (some (.ret, X_ref03_Signs_2_1 false)) (jump true (J_ref03_Signs_4_0 Rt0 K true n s i nn c)))))))) = (if toB (putB c) ≠ (s.data.toList.drop i).take nn then some (.ret, X_ref03_Signs_2_1 false) else L_ref03_Signs_2_1 Rt0 K true n s ((i + nn : Nat) : Int) ([.int .i64 c])) := fun h1 => by
   rw [put3_ok h0 h1, onR_some, ew]
   have g1 : decide ((0 : Int) ≤ ((i + nn : Nat) : Int)) = true := by simp; omega
   have g2 : decide (((i + nn : Nat) : Int) ≤ (s.size : Int)) = true := by simp; omega
   have g3 : decide ((0 : Int) ≤ (i : Int)) = true := by simp
   have g4 : decide ((i : Int) ≤ ((i + nn : Nat) : Int)) = true := by simp; omega
   have g5 : (List.all ((putB c).map (FV.int .u8)) (FV.isInt .u8)) = true := by simp
   have g6 : List.map (fun e => UInt8.ofNat (FV.toInt e).toNat) ((putB c).map (FV.int .u8)) = toB (putB c) := by simp [toB, FV.toInt]
   have g7 : (⟨(toB (putB c)).toArray⟩ : ByteArray).toList = toB (putB c) := by rw [ByteArray.toList_eq]
   simp only [List.isEmpty_nil, allF_cons, allF_nil, Bool.and_true, when_true', List.getD_cons_zero, toF_fz, isSl_sl, toSl_sl, all_fits_int, g1, g2, g3, g4, g5, g6, g7, Int.toNat_natCast, extract_list, ex]
   by_cases h : toB (putB c) = (s.data.toList.drop i).take nn
   · have : (toB (putB c) == (s.data.toList.drop i).take nn) = true := by simpa using h
     rw [if_neg (by simpa using h)]
     have r1 : decide (((0 : Nat) + List.length [FV.int .i64 c]) * 8 ≤ roomy) = true := by first | (simp [roomy]; done) | (simp [roomy]; omega)
     have r2 : decide ((0 : Nat) + List.length [FV.int .i64 c] ≤ roomy) = true := by first | (simp [roomy]; done) | (simp [roomy]; omega)
     simp only [this, Bool.not_true, ifB_false, jump_true, J_ref03_Signs_4_0_eq, ew, r1, r2, Bool.and_true, when_true']
     skip
   · have : (toB (putB c) == (s.data.toList.drop i).take nn) = false := by simpa using h
     rw [if_pos (by simpa using h)]
     simp only [this, Bool.not_false, ifB_true]
 by_cases h1 : c ≤ 1114111
 · have a1 : decide (c > 1114111) = false := by simp; omega
   by_cases h2 : 55296 ≤ c
   · have a2 : decide (c ≥ 55296) = true := by simp; omega
     by_cases h3 : c < 57344
     · have a3 : decide (c < 57344) = true := by simp; omega
       rw [if_pos (.inr (.inl ⟨h2, h3⟩))]
       simp only [a1, a2, a3, ifB_false, ifB_true]
     · have a3 : decide (c < 57344) = false := by simp; omega
       have : (1114111 < c ∨ (55296 ≤ c ∧ c < 57344) ∨ toB (putB c) ≠ (s.data.toList.drop i).take nn) ↔ toB (putB c) ≠ (s.data.toList.drop i).take nn := ⟨fun h => by rcases h with h | h | h <;> first | exact h | omega, fun h => .inr (.inr h)⟩
       simp only [a1, a2, a3, ifB_false, ifB_true, this]
       exact tail h1
   · have a2 : decide (c ≥ 55296) = false := by simp; omega
     have : (1114111 < c ∨ (55296 ≤ c ∧ c < 57344) ∨ toB (putB c) ≠ (s.data.toList.drop i).take nn) ↔ toB (putB c) ≠ (s.data.toList.drop i).take nn := ⟨fun h => by rcases h with h | h | h <;> first | exact h | omega, fun h => .inr (.inr h)⟩
     simp only [a1, a2, ifB_false, this]
     exact tail h1
 · have a1 : decide (c > 1114111) = true := by simp; omega
   rw [if_pos (.inl (by omega))]
   simp only [a1, ifB_true]
theorem signs_round0 (K n : Nat) (hK : 5 ≤ K) (hacc : 0 ≤ 8796093022208) (i : Nat) (hi : i < s.data.toList.length) :
   L_ref03_Signs_2_0 Rt0 K true (n + 1) s i = (match sgn (s.data.toList.drop i) with
     | some (c, k) => L_ref03_Signs_2_1 Rt0 K true n s ((i + k : Nat) : Int) ([.int .i64 c])
     | none => some (.ret, X_ref03_Signs_2_1 false)) := by
 have hbs := bytes_size s
 rw [L_ref03_Signs_2_0_eq, drop_cons hi]
 have e1 : decide ((i : Int) < (s.size : Int)) = true := by simp; omega
 have e2 : decide ((0 : Int) ≤ (i : Int)) = true := by simp
 simp only [e1, e2, ifB_true, Bool.and_true, when_true', Int.toNat_natCast, byteAt hi]
 have hdr : s.data.toList.drop i = s.data.toList[i] :: s.data.toList.drop (i + 1) := drop_cons hi
 have hlen : (s.data.toList.drop (i + 1)).length + 1 + i = s.size := by rw [List.length_drop]; omega
 generalize s.data.toList[i] = b at *
 have hb := u8_le b
 have e5 : IntKind.wrap .i64 ((b.toNat : Nat) : Int) = (b.toNat : Int) := wrap64 (by omega) (by omega)
 simp only [e5]
 have hN := headN_le b.toNat
 have j7 : (ifB (decide ((b.toNat : Int) ≥ 240)) (jump true (J_ref03_Signs_1_0 Rt0 K true n s i (b.toNat : Int) 1 (b.toNat : Int) (decide ((b.toNat : Int) < 248)))) (jump true (J_ref03_Signs_1_0 Rt0 K true n s i (b.toNat : Int) 1 (b.toNat : Int) false))) = J_ref03_Signs_7_0 Rt0 K true n s i (b.toNat : Int) (headN b.toNat) (headC b.toNat) := by
   unfold headN headC
   have w1 : 240 ≤ b.toNat → IntKind.wrap .i64 ((b.toNat : Int) - 240) = (b.toNat : Int) - 240 := fun _ => wrap64 (by omega) (by omega)
   have w2 : IntKind.wrap .i64 ((b.toNat : Int) - 224) = (b.toNat : Int) - 224 := wrap64 (by omega) (by omega)
   have w3 : IntKind.wrap .i64 ((b.toNat : Int) - 192) = (b.toNat : Int) - 192 := wrap64 (by omega) (by omega)
   by_cases h1 : 240 ≤ b.toNat
   · have a1 : decide ((b.toNat : Int) ≥ 240) = true := by simp; omega
     have a3 : decide ((b.toNat : Int) ≥ 224) = true := by simp; omega
     by_cases h2 : b.toNat < 248
     · have a2 : decide ((b.toNat : Int) < 248) = true := by simp; omega
       simp only [a1, a2, ifB_true, jump_true, J_ref03_Signs_1_0_eq, w1 h1, if_pos (show 240 ≤ b.toNat ∧ b.toNat < 248 from ⟨h1, h2⟩)]
       exact Eq.refl _
     · have a2 : decide ((b.toNat : Int) < 248) = false := by simp; omega
       simp only [a1, a2, a3, ifB_true, ifB_false, jump_true, J_ref03_Signs_1_0_eq, w2, if_neg (show ¬ (240 ≤ b.toNat ∧ b.toNat < 248) by omega), if_pos (show 224 ≤ b.toNat by omega)]
       exact Eq.refl _
   · have a1 : decide ((b.toNat : Int) ≥ 240) = false := by simp; omega
     rw [if_neg (show ¬ (240 ≤ b.toNat ∧ b.toNat < 248) by omega), if_neg (show ¬ (240 ≤ b.toNat ∧ b.toNat < 248) by omega)]
     by_cases h3 : 224 ≤ b.toNat
     · have a3 : decide ((b.toNat : Int) ≥ 224) = true := by simp; omega
       simp only [a1, a3, ifB_true, ifB_false, jump_true, J_ref03_Signs_1_0_eq, w2, if_pos h3]
       exact Eq.refl _
     · have a3 : decide ((b.toNat : Int) ≥ 224) = false := by simp; omega
       by_cases h4 : 192 ≤ b.toNat
       · have a4 : decide ((b.toNat : Int) ≥ 192) = true := by simp; omega
         simp only [a1, a3, a4, ifB_true, ifB_false, jump_true, J_ref03_Signs_1_0_eq, w3, if_neg h3, if_pos h4]
         exact Eq.refl _
       · have a4 : decide ((b.toNat : Int) ≥ 192) = false := by simp; omega
         simp only [a1, a3, a4, ifB_true, ifB_false, jump_true, J_ref03_Signs_1_0_eq, if_neg h3, if_neg h4]
         exact Eq.refl _
 rw [j7, J_ref03_Signs_7_0_eq]
 have ew : IntKind.wrap .i64 ((i : Int) + (headN b.toNat : Int)) = ((i + headN b.toNat : Nat) : Int) := by rw [wrap64 (by omega) (by omega)]; omega
 simp only [sgn]
 by_cases h1 : 248 ≤ b.toNat
 · have a1 : decide ((b.toNat : Int) ≥ 248) = true := by simp; omega
   rw [if_pos (.inl h1)]
   simp only [a1, ifB_true]
 · have a1 : decide ((b.toNat : Int) ≥ 248) = false := by simp; omega
   by_cases h2 : 128 ≤ b.toNat ∧ b.toNat < 192
   · have a2 : decide ((b.toNat : Int) ≥ 128) = true := by simp; omega
     have a3 : decide ((b.toNat : Int) < 192) = true := by simp; omega
     rw [if_pos (.inr (.inl h2))]
     simp only [a1, a2, a3, ifB_true, ifB_false]
   · by_cases h3 : (s.data.toList.drop (i + 1)).length + 1 < headN b.toNat
     · have a4 : decide (((i + headN b.toNat : Nat) : Int) > (s.size : Int)) = true := by simp; omega
       rw [if_pos (.inr (.inr h3))]
       by_cases h4 : 128 ≤ b.toNat
       · have a2 : decide ((b.toNat : Int) ≥ 128) = true := by simp; omega
         have a3 : decide ((b.toNat : Int) < 192) = false := by simp; omega
         simp only [a1, a2, a3, ew, a4, ifB_true, ifB_false]
       · have a2 : decide ((b.toNat : Int) ≥ 128) = false := by simp; omega
         simp only [a1, a2, ew, a4, ifB_true, ifB_false]
     · have a4 : decide (((i + headN b.toNat : Nat) : Int) > (s.size : Int)) = false := by simp; omega
       rw [if_neg (by rintro (h | h | h); exact h1 h; exact h2 h; exact h3 h)]
       have j6 : J_ref03_Signs_6_0 Rt0 K true n s i (headN b.toNat) (headC b.toNat) = (match (match cont (headN b.toNat - 1) (headC b.toNat) (s.data.toList.drop (i + 1)) with
           | none => none
           | some c => if 1114111 < c ∨ (55296 ≤ c ∧ c < 57344) ∨ toB (putB c) ≠ (b :: s.data.toList.drop (i + 1)).take (headN b.toNat) then none else some (c, headN b.toNat)) with
           | some (c, k) => L_ref03_Signs_2_1 Rt0 K true n s ((i + k : Nat) : Int) ([.int .i64 c])
           | none => some (.ret, X_ref03_Signs_2_1 false)) := by
         obtain ⟨K', rfl⟩ : ∃ m, K = m + 5 := ⟨K - 5, by omega⟩
         rw [J_ref03_Signs_6_0_eq]
         have hc := headC_le (show b.toNat < 248 by omega)
         have hp : (headC b.toNat + 1) * ((64 ^ (headN b.toNat - 1) : Nat) : Int) ≤ 1099511627776 := by
           have : ((64 ^ (headN b.toNat - 1) : Nat) : Int) ≤ 262144 := by
             have := Nat.pow_le_pow_right (show 0 < 64 by omega) (show headN b.toNat - 1 ≤ 3 by omega)
             omega
           have := Int.mul_le_mul_of_nonneg_left this (show 0 ≤ headC b.toNat + 1 by omega)
           omega
         have := inner0 s hs (K' + 5) n (headN b.toNat - 1) (K' + 5) i (headN b.toNat) 1 (headC b.toNat) (by omega) (by omega) hN.2 (by omega) hc.1 hp
         rw [show ((1 : Nat) : Int) = 1 from rfl] at this
         rw [this]
         cases hct : cont (headN b.toNat - 1) (headC b.toNat) (s.data.toList.drop (i + 1)) with
         | none => simp only []
         | some c =>
           have h0 := cont_nonneg _ _ _ _ hc.1 hct
           simp only []
           rw [signs_last0 s hs (K' + 5) n hacc i (headN b.toNat) c h0 (by omega), hdr]
           split
           · simp only []
           · simp only []
       by_cases h4 : 128 ≤ b.toNat
       · have a2 : decide ((b.toNat : Int) ≥ 128) = true := by simp; omega
         have a3 : decide ((b.toNat : Int) < 192) = false := by simp; omega
         simp only [a1, a2, a3, ew, a4, ifB_true, ifB_false, jump_true]
         exact j6
       · have a2 : decide ((b.toNat : Int) ≥ 128) = false := by simp; omega
         simp only [a1, a2, ew, a4, ifB_true, ifB_false, jump_true]
         exact j6
end
end Go.Ab
end
section
namespace Go.Ab
theorem sgn_pos {l : List UInt8} {c : Int} {k : Nat} (h : sgn l = some (c, k)) : 1 ≤ k ∧ k ≤ l.length ∧ 0 ≤ c ∧ c ≤ 1114111 := by
 cases l with
 | nil => cases h
 | cons b r =>
  simp only [sgn] at h
  split at h
  ·cases h
  ·rename_i h1
   have hb : b.toNat < 248 := Nat.lt_of_not_le fun e => h1 (.inl e)
   have hN := headN_le b.toNat
   split at h
   ·cases h
   ·rename_i c' hc
    have := cont_nonneg _ _ _ _ (headC_le hb).1 hc
    split at h
    ·cases h
    ·rename_i h2
     simp only [Option.some.injEq, Prod.mk.injEq] at h
     obtain ⟨rfl, rfl⟩ := h
     refine ⟨hN.1, ?_, this, Int.not_lt.1 fun e => h2 (.inl e)⟩
     have : ¬ (r.length + 1 < headN b.toNat) := fun e => h1 (.inr (.inr e))
     simp only [List.length_cons]; omega
section
variable (s : ByteArray) (hs : s.size ≤ 8796093022208)
include hs
theorem signs_loop (K : Nat) (hK : 5 ≤ K) : ∀ (n f i : Nat) (acc : List Int), n < f → s.data.toList.length ≤ i + n → acc.length ≤ i → i ≤ s.data.toList.length →
   onL (L_ref03_Signs_2_1 Rt0 K true f s i (acc.map (.int .i64))) (K_ref03_Signs_2 Rt0 K true) = (match signsN n (s.data.toList.drop i) with
     | some cs => some ([.fz (.sl ((acc ++ cs).map (.int .i64))), .fz (.bool true)], [])
     | none => some ([.fz (.sl []), .fz (.bool false)], [])) := by
 have hbs := bytes_size s
 intro n
 induction n with
 | zero =>
   intro f i acc hf hn ha hi
   obtain ⟨f, rfl⟩ : ∃ m, f = m + 1 := ⟨f - 1, by omega⟩
   have e1 : decide ((i : Int) < (s.size : Int)) = false := by simp; omega
   rw [L_ref03_Signs_2_1_eq, List.drop_eq_nil_of_le (show s.data.toList.length ≤ i by omega)]
   simp only [e1, ifB_false, onL_some, X_ref03_Signs_2_2_eq, signsN, List.append_nil]
 | succ n ih =>
   intro f i acc hf hn ha hi
   obtain ⟨f, rfl⟩ : ∃ m, f = m + 1 := ⟨f - 1, by omega⟩
   by_cases hl : i < s.data.toList.length
   · rw [signs_round1 s hs K f hK acc (by omega) i hl]
     rw [drop_cons hl]
     simp only [signsN]
     rw [← drop_cons hl]
     cases hg : sgn (s.data.toList.drop i) with
     | none => simp only [onL_some, X_ref03_Signs_2_3_eq]
     | some p =>
       obtain ⟨c, k⟩ := p
       obtain ⟨k1, k2, c0, c1⟩ := sgn_pos hg
       rw [List.length_drop] at k2
       have := ih f (i + k) (acc ++ [c]) (by omega) (by omega) (by simp; omega) (by omega)
       simp only []
       rw [this, List.drop_drop]
       cases signsN n (s.data.toList.drop (i + k)) with
       | none => rfl
       | some cs => simp
   · have e1 : decide ((i : Int) < (s.size : Int)) = false := by simp; omega
     rw [L_ref03_Signs_2_1_eq, List.drop_eq_nil_of_le (show s.data.toList.length ≤ i by omega)]
     simp only [e1, ifB_false, onL_some, X_ref03_Signs_2_2_eq, signsN, List.append_nil]
theorem signs_ok : Rt0 N_ref03_Signs [.fz (.str s)] = (match signsL s.data.toList with
      | some cs => some ([.fz (.sl (cs.map (.int .i64))), .fz (.bool true)], [])
      | none => some ([.fz (.sl []), .fz (.bool false)], [])) := by
  have hbs := bytes_size s
  have key : onL (L_ref03_Signs_2_0 Rt0 (s.data.toList.length + 6) true (s.data.toList.length + 6) s ((0 : Nat) : Int)) (K_ref03_Signs_2 Rt0 (s.data.toList.length + 6) true) = (match signsL s.data.toList with
      | some cs => some ([.fz (.sl (cs.map (.int .i64))), .fz (.bool true)], [])
      | none => some ([.fz (.sl []), .fz (.bool false)], [])) := by
    by_cases hl : 0 < s.data.toList.length
    · rw [signs_round0 s hs _ (s.data.toList.length + 5) (by omega) (by omega) 0 hl, List.drop_zero]
      obtain ⟨m, hm⟩ : ∃ m, s.data.toList.length = m + 1 := ⟨_, (Nat.sub_one_add_one (by omega)).symm⟩
      have hcons : s.data.toList = s.data.toList[0] :: s.data.toList.drop 1 := by have := drop_cons hl; rwa [List.drop_zero] at this
      have hu : signsL s.data.toList = (match sgn s.data.toList with
          | none => none
          | some (c, k) => (signsN m (s.data.toList.drop k)).map (c :: ·)) := by
        unfold signsL
        rw [hm, hcons]
        simp only [signsN]
        try (cases sgn (s.data.toList[0] :: s.data.toList.drop 1) <;> rfl)
      rw [hu]
      cases hg : sgn s.data.toList with
      | none => simp only [onL_some, X_ref03_Signs_2_1_eq]
      | some p =>
        obtain ⟨c, k⟩ := p
        obtain ⟨k1, k2, c0, c1⟩ := sgn_pos hg
        have := signs_loop s hs (s.data.toList.length + 6) (by omega) m (s.data.toList.length + 5) k [c] (by omega) (by omega) (by simp; omega) (by omega)
        simp only [Nat.zero_add]
        rw [show [FV.int .i64 c] = [c].map (FV.int .i64) from rfl, this]
        cases signsN m (s.data.toList.drop k) with
        | none => rfl
        | some cs => rfl
    · have h0 : s.data.toList = [] := List.length_eq_zero_iff.1 (by omega)
      have hz : s.size = 0 := by omega
      have e1 : decide (((0 : Nat) : Int) < (s.size : Int)) = false := by rw [hz]; rfl
      rw [L_ref03_Signs_2_0_eq, h0]
      simp only [e1, ifB_false, onL_some, X_ref03_Signs_2_0_eq, signsL, signsN]
      rfl
  have hE := E_ref03_Signs Rt0 (s.data.toList.length + 6) true s
  rw [show ((0 : Nat) : Int) = 0 from rfl] at key
  rw [key] at hE
  cases hq : signsL s.data.toList with
  | none => rw [hq] at hE; exact rt_call0 A_ref03_Signs rfl rfl (s.data.toList.length + 6) hE
  | some cs => rw [hq] at hE; exact rt_call0 A_ref03_Signs rfl rfl (s.data.toList.length + 6) hE
end
end Go.Ab
end
section
namespace Go.Ab
def contB (d : UInt8) : Bool := decide (128 ≤ d.toNat ∧ d.toNat ≤ 191)
def tailB : List UInt8 → Nat → Nat → Nat → Bool
 | _ :: b :: r, n, lo, hi => decide (lo ≤ b.toNat ∧ b.toNat ≤ hi) && (decide (n ≤ r.length + 1) && (r.take (n - 1)).all contB)
 | _, _, _, _ => false
def sizeB : List UInt8 → Nat
 | [] => 0
 | c :: r =>
  if c.toNat < 128 then 1
  else if decide (194 ≤ c.toNat) && (decide (c.toNat ≤ 223) && tailB (c :: r) 1 128 191) then 2
  else if (decide (c.toNat = 224) && tailB (c :: r) 2 160 191) || ((decide (225 ≤ c.toNat) && (decide (c.toNat ≤ 239) && (!decide (c.toNat = 237) && tailB (c :: r) 2 128 191))) || (decide (c.toNat = 237) && tailB (c :: r) 2 128 159)) then 3
  else if (decide (c.toNat = 240) && tailB (c :: r) 3 144 191) || ((decide (241 ≤ c.toNat) && (decide (c.toNat ≤ 243) && tailB (c :: r) 3 128 191)) || (decide (c.toNat = 244) && tailB (c :: r) 3 128 143)) then 4
  else 0
theorem u8_eq {e : Int} (h0 : 0 ≤ e) (h1 : e ≤ 255) (c : UInt8) : UInt8.ofNat e.toNat = c ↔ e = (c.toNat : Int) := by
 have hc := c.toNat_lt
 constructor
 ·intro h
  have := congrArg UInt8.toNat h
  rw [UInt8.toNat_ofNat_of_lt' (show e.toNat < 256 by omega)] at this
  omega
 ·intro h
  apply UInt8.toNat_inj.1
  rw [UInt8.toNat_ofNat_of_lt' (show e.toNat < 256 by omega)]
  omega
def badV (c : UInt8) (r : List UInt8) (v : Int) : Prop := 1114111 < v ∨ (55296 ≤ v ∧ v < 57344) ∨ toB (putB v) ≠ (c :: r).take (headN c.toNat)
section
variable {c : UInt8} {r : List UInt8} (hb : ¬ (248 ≤ c.toNat ∨ (128 ≤ c.toNat ∧ c.toNat < 192) ∨ r.length + 1 < headN c.toNat))
include hb
theorem sgn_bad {v : Int} (hc : cont (headN c.toNat - 1) (headC c.toNat) r = some v) (h : badV c r v) : sgn (c :: r) = none := by
 simp only [sgn]
 rw [if_neg hb, hc]
 unfold badV at h
 simp only []
 rw [if_pos h]
theorem sgn_good {v : Int} (hc : cont (headN c.toNat - 1) (headC c.toNat) r = some v) (h : ¬ badV c r v) : sgn (c :: r) = some (v, headN c.toNat) := by
 simp only [sgn]
 rw [if_neg hb, hc]
 unfold badV at h
 simp only []
 rw [if_neg h]
theorem sgn_nocont (hc : cont (headN c.toNat - 1) (headC c.toNat) r = none) : sgn (c :: r) = none := by
 simp only [sgn]
 rw [if_neg hb, hc]
end
theorem sgn_short {c : UInt8} {r : List UInt8} (hb : 248 ≤ c.toNat ∨ (128 ≤ c.toNat ∧ c.toNat < 192) ∨ r.length + 1 < headN c.toNat) : sgn (c :: r) = none := by
 simp only [sgn]
 rw [if_pos hb]
theorem size_sgn (c : UInt8) (r : List UInt8) : sizeB (c :: r) = (match sgn (c :: r) with | some p => p.2 | none => 0) := by
 have hc := u8_le c
 by_cases h1 : c.toNat < 128
 ·have hN : headN c.toNat = 1 := by unfold headN; rw [if_neg (by omega), if_neg (by omega), if_neg (by omega)]
  have hC : headC c.toNat = c.toNat := by unfold headC; rw [if_neg (by omega), if_neg (by omega), if_neg (by omega)]
  have hp : putB (c.toNat : Int) = [(c.toNat : Int)] := by unfold putB; rw [if_pos (by omega)]
  have he : toB [(c.toNat : Int)] = [c] := by simp [toB]
  have hs := sgn_good (c := c) (r := r) (v := (c.toNat : Int)) (by rw [hN]; omega) (by rw [hN, hC]; rfl) (by unfold badV; rw [hN, hp, he]; simp; omega)
  rw [hs, hN]
  simp [sizeB, h1]
 by_cases h2 : c.toNat < 192
 ·rw [sgn_short (.inr (.inl ⟨by omega, h2⟩))]
  have e1 : ¬ 194 ≤ c.toNat := by omega
  have e2 : ¬ c.toNat = 224 := by omega
  have e3 : ¬ 225 ≤ c.toNat := by omega
  have e4 : ¬ c.toNat = 237 := by omega
  have e5 : ¬ c.toNat = 240 := by omega
  have e6 : ¬ 241 ≤ c.toNat := by omega
  have e7 : ¬ c.toNat = 244 := by omega
  simp [sizeB, h1, e1, e2, e3, e4, e5, e6, e7]
 by_cases h3 : c.toNat < 224
 ·have hN : headN c.toNat = 2 := by unfold headN; rw [if_neg (by omega), if_neg (by omega), if_pos (by omega)]
  have hC : headC c.toNat = (c.toNat : Int) - 192 := by unfold headC; rw [if_neg (by omega), if_neg (by omega), if_pos (by omega)]
  have e2 : ¬ c.toNat = 224 := by omega
  have e3 : ¬ 225 ≤ c.toNat := by omega
  have e4 : ¬ c.toNat = 237 := by omega
  have e5 : ¬ c.toNat = 240 := by omega
  have e6 : ¬ 241 ≤ c.toNat := by omega
  have e7 : ¬ c.toNat = 244 := by omega
  have e8 : c.toNat ≤ 223 := by omega
  match r with
  | [] =>
   rw [sgn_short (.inr (.inr (by rw [hN]; simp)))]
   simp [sizeB, tailB, h1]
  | d :: r =>
   have hd := u8_le d
   have hb : ¬ (248 ≤ c.toNat ∨ (128 ≤ c.toNat ∧ c.toNat < 192) ∨ (d :: r).length + 1 < headN c.toNat) := by rw [hN]; simp only [List.length_cons]; omega
   by_cases hcd : 128 ≤ d.toNat ∧ d.toNat ≤ 191
   ·obtain ⟨v, hv⟩ : ∃ v, v = 64 * ((c.toNat : Int) - 192) + (d.toNat : Int) - 128 := ⟨_, rfl⟩
    have hct : cont (headN c.toNat - 1) (headC c.toNat) (d :: r) = some v := by rw [hN, hC, hv]; simp only [cont, if_pos hcd]
    by_cases hlow : 194 ≤ c.toNat
    ·have hp : putB v = [192 + v / 64, 128 + v % 64] := by unfold putB; rw [if_neg (by omega), if_pos (by omega)]
     have q1 : UInt8.ofNat (192 + v / 64).toNat = c := (u8_eq (by omega) (by omega) c).2 (by omega)
     have q2 : UInt8.ofNat (128 + v % 64).toNat = d := (u8_eq (by omega) (by omega) d).2 (by omega)
     have he : toB (putB v) = [c, d] := by rw [hp]; simp [toB, q1, q2]
     rw [sgn_good hb hct (by unfold badV; rw [hN, he]; simp; omega), hN]
     simp [sizeB, tailB, h1, hcd, hlow, e8]
    ·have hp : putB v = [v] := by unfold putB; rw [if_pos (by omega)]
     rw [sgn_bad hb hct (.inr (.inr (by rw [hN, hp]; simp [toB])))]
     simp [sizeB, tailB, h1, hlow, e2, e3, e4, e5, e6, e7]
   ·rw [sgn_nocont hb (by rw [hN, hC]; simp only [cont, if_neg hcd])]
    simp [sizeB, tailB, h1, hcd, e2, e3, e4, e5, e6, e7]
 by_cases h4 : c.toNat < 240
 ·have hN : headN c.toNat = 3 := by unfold headN; rw [if_neg (by omega), if_pos (by omega)]
  have hC : headC c.toNat = (c.toNat : Int) - 224 := by unfold headC; rw [if_neg (by omega), if_pos (by omega)]
  have e5 : ¬ c.toNat = 240 := by omega
  have e6 : ¬ 241 ≤ c.toNat := by omega
  have e7 : ¬ c.toNat = 244 := by omega
  have e8 : ¬ c.toNat ≤ 223 := by omega
  have e9 : c.toNat ≤ 239 := by omega
  match r with
  | [] =>
   rw [sgn_short (.inr (.inr (by rw [hN]; simp)))]
   simp [sizeB, tailB, h1]
  | [d] =>
   rw [sgn_short (.inr (.inr (by rw [hN]; simp)))]
   simp [sizeB, tailB, h1, e8]
  | d :: e :: r =>
   have hd := u8_le d
   have he0 := u8_le e
   have hb : ¬ (248 ≤ c.toNat ∨ (128 ≤ c.toNat ∧ c.toNat < 192) ∨ (d :: e :: r).length + 1 < headN c.toNat) := by rw [hN]; simp only [List.length_cons]; omega
   by_cases hcd : 128 ≤ d.toNat ∧ d.toNat ≤ 191
   ·by_cases hce : 128 ≤ e.toNat ∧ e.toNat ≤ 191
    ·obtain ⟨v, hv⟩ : ∃ v, v = 64 * (64 * ((c.toNat : Int) - 224) + (d.toNat : Int) - 128) + (e.toNat : Int) - 128 := ⟨_, rfl⟩
     have hct : cont (headN c.toNat - 1) (headC c.toNat) (d :: e :: r) = some v := by rw [hN, hC, hv]; simp only [cont, if_pos hcd, if_pos hce]
     have hce' : contB e = true := by simp [contB, hce]
     by_cases hlow : 2048 ≤ v
     ·have hp : putB v = [224 + v / 4096, 128 + v / 64 % 64, 128 + v % 64] := by unfold putB; rw [if_neg (by omega), if_neg (by omega), if_pos (by omega)]
      have q1 : UInt8.ofNat (224 + v / 4096).toNat = c := (u8_eq (by omega) (by omega) c).2 (by omega)
      have q2 : UInt8.ofNat (128 + v / 64 % 64).toNat = d := (u8_eq (by omega) (by omega) d).2 (by omega)
      have q3 : UInt8.ofNat (128 + v % 64).toNat = e := (u8_eq (by omega) (by omega) e).2 (by omega)
      have he : toB (putB v) = [c, d, e] := by rw [hp]; simp [toB, q1, q2, q3]
      by_cases hsur : 55296 ≤ v ∧ v < 57344
      ·have c1 : c.toNat = 237 := by omega
       have c2 : ¬ d.toNat ≤ 159 := by omega
       rw [sgn_bad hb hct (.inr (.inl hsur))]
       simp [sizeB, tailB, c1, c2]
      ·rw [sgn_good hb hct (by unfold badV; rw [hN, he]; simp; omega), hN]
       by_cases c1 : c.toNat = 224
       ·have : 160 ≤ d.toNat := by omega
        simp [sizeB, tailB, c1, this, hcd, hce']
       ·by_cases c2 : c.toNat = 237
        ·have : d.toNat ≤ 159 := by omega
         simp [sizeB, tailB, c2, this, hcd, hce']
        ·have : 225 ≤ c.toNat := by omega
         simp [sizeB, tailB, h1, e8, e9, c1, c2, this, hcd, hce']
     ·have c1 : c.toNat = 224 := by omega
      have c2 : ¬ 160 ≤ d.toNat := by omega
      have hl : (toB (putB v)).length ≤ 2 := by
       unfold putB
       by_cases v1 : v < 128
       ·rw [if_pos v1]; simp [toB]
       ·rw [if_neg v1, if_pos (by omega)]; simp [toB]
      rw [sgn_bad hb hct (.inr (.inr (by rw [hN]; intro h; rw [h] at hl; simp at hl)))]
      simp [sizeB, tailB, c1, c2]
    ·have hce' : contB e = false := by simp [contB]; omega
     rw [sgn_nocont hb (by rw [hN, hC]; simp only [cont, if_pos hcd, if_neg hce])]
     simp [sizeB, tailB, h1, hce', e5, e6, e7, e8]
   ·rw [sgn_nocont hb (by rw [hN, hC]; simp only [cont, if_neg hcd])]
    have a1 : ¬ (160 ≤ d.toNat ∧ d.toNat ≤ 191) := by omega
    have a2 : ¬ (128 ≤ d.toNat ∧ d.toNat ≤ 159) := by omega
    simp [sizeB, tailB, h1, hcd, a1, a2, e5, e6, e7]
 by_cases h5 : c.toNat < 248
 ·have hN : headN c.toNat = 4 := by unfold headN; rw [if_pos (by omega)]
  have hC : headC c.toNat = (c.toNat : Int) - 240 := by unfold headC; rw [if_pos (by omega)]
  have e2 : ¬ c.toNat = 224 := by omega
  have e4 : ¬ c.toNat = 237 := by omega
  have e8 : ¬ c.toNat ≤ 223 := by omega
  have e9 : ¬ c.toNat ≤ 239 := by omega
  match r with
  | [] =>
   rw [sgn_short (.inr (.inr (by rw [hN]; simp)))]
   simp [sizeB, tailB, h1]
  | [d] =>
   rw [sgn_short (.inr (.inr (by rw [hN]; simp)))]
   simp [sizeB, tailB, h1, e8, e9, e2, e4]
  | [d, e] =>
   rw [sgn_short (.inr (.inr (by rw [hN]; simp)))]
   simp [sizeB, tailB, h1, e8, e9, e2, e4]
  | d :: e :: f :: r =>
   have hd := u8_le d
   have he0 := u8_le e
   have hf0 := u8_le f
   have hb : ¬ (248 ≤ c.toNat ∨ (128 ≤ c.toNat ∧ c.toNat < 192) ∨ (d :: e :: f :: r).length + 1 < headN c.toNat) := by rw [hN]; simp only [List.length_cons]; omega
   by_cases hcd : 128 ≤ d.toNat ∧ d.toNat ≤ 191
   ·by_cases hce : 128 ≤ e.toNat ∧ e.toNat ≤ 191
    ·have hce' : contB e = true := by simp [contB, hce]
     by_cases hcf : 128 ≤ f.toNat ∧ f.toNat ≤ 191
     ·have hcf' : contB f = true := by simp [contB, hcf]
      obtain ⟨v, hv⟩ : ∃ v, v = 64 * (64 * (64 * ((c.toNat : Int) - 240) + (d.toNat : Int) - 128) + (e.toNat : Int) - 128) + (f.toNat : Int) - 128 := ⟨_, rfl⟩
      have hct : cont (headN c.toNat - 1) (headC c.toNat) (d :: e :: f :: r) = some v := by rw [hN, hC, hv]; simp only [cont, if_pos hcd, if_pos hce, if_pos hcf]
      by_cases hlow : 65536 ≤ v
      ·have hp : putB v = [240 + v / 262144, 128 + v / 4096 % 64, 128 + v / 64 % 64, 128 + v % 64] := by unfold putB; rw [if_neg (by omega), if_neg (by omega), if_neg (by omega)]
       have q1 : UInt8.ofNat (240 + v / 262144).toNat = c := (u8_eq (by omega) (by omega) c).2 (by omega)
       have q2 : UInt8.ofNat (128 + v / 4096 % 64).toNat = d := (u8_eq (by omega) (by omega) d).2 (by omega)
       have q3 : UInt8.ofNat (128 + v / 64 % 64).toNat = e := (u8_eq (by omega) (by omega) e).2 (by omega)
       have q4 : UInt8.ofNat (128 + v % 64).toNat = f := (u8_eq (by omega) (by omega) f).2 (by omega)
       have he : toB (putB v) = [c, d, e, f] := by rw [hp]; simp [toB, q1, q2, q3, q4]
       by_cases hbig : 1114111 < v
       ·rw [sgn_bad hb hct (.inl hbig)]
        have c0 : ¬ c.toNat = 240 := by omega
        by_cases c1 : c.toNat = 244
        ·have c2 : ¬ d.toNat ≤ 143 := by omega
         simp [sizeB, tailB, c1, c2]
        ·have c2 : ¬ c.toNat ≤ 243 := by omega
         simp [sizeB, tailB, h1, e2, e4, e8, e9, c0, c1, c2]
       ·rw [sgn_good hb hct (by unfold badV; rw [hN, he]; simp; omega), hN]
        by_cases c1 : c.toNat = 240
        ·have : 144 ≤ d.toNat := by omega
         simp [sizeB, tailB, c1, this, hcd, hce', hcf']
        ·by_cases c2 : c.toNat = 244
         ·have : d.toNat ≤ 143 := by omega
          simp [sizeB, tailB, c2, this, hcd, hce', hcf']
         ·have a1 : 241 ≤ c.toNat := by omega
          have a2 : c.toNat ≤ 243 := by omega
          simp [sizeB, tailB, h1, e2, e4, e8, e9, c1, c2, a1, a2, hcd, hce', hcf']
      ·have c1 : c.toNat = 240 := by omega
       have c2 : ¬ 144 ≤ d.toNat := by omega
       have hl : (toB (putB v)).length ≤ 3 := by
        unfold putB
        by_cases v1 : v < 128
        ·rw [if_pos v1]; simp [toB]
        ·by_cases v2 : v < 2048
         ·rw [if_neg v1, if_pos v2]; simp [toB]
         ·rw [if_neg v1, if_neg v2, if_pos (by omega)]; simp [toB]
       rw [sgn_bad hb hct (.inr (.inr (by rw [hN]; intro h; rw [h] at hl; simp at hl)))]
       simp [sizeB, tailB, c1, c2]
     ·have hcf' : contB f = false := by simp [contB]; omega
      rw [sgn_nocont hb (by rw [hN, hC]; simp only [cont, if_pos hcd, if_pos hce, if_neg hcf])]
      simp [sizeB, tailB, h1, hcf', e2, e4, e8, e9]
    ·have hce' : contB e = false := by simp [contB]; omega
     rw [sgn_nocont hb (by rw [hN, hC]; simp only [cont, if_pos hcd, if_neg hce])]
     simp [sizeB, tailB, h1, hce', e2, e4, e8, e9]
   ·rw [sgn_nocont hb (by rw [hN, hC]; simp only [cont, if_neg hcd])]
    have a1 : ¬ (144 ≤ d.toNat ∧ d.toNat ≤ 191) := by omega
    have a2 : ¬ (128 ≤ d.toNat ∧ d.toNat ≤ 143) := by omega
    simp [sizeB, tailB, h1, hcd, a1, a2, e2, e4, e8, e9]
 ·rw [sgn_short (.inl (by omega))]
  have e1 : ¬ c.toNat ≤ 223 := by omega
  have e2 : ¬ c.toNat = 224 := by omega
  have e3 : ¬ c.toNat ≤ 239 := by omega
  have e4 : ¬ c.toNat = 237 := by omega
  have e5 : ¬ c.toNat = 240 := by omega
  have e6 : ¬ c.toNat ≤ 243 := by omega
  have e7 : ¬ c.toNat = 244 := by omega
  simp [sizeB, h1, e1, e2, e3, e4, e5, e6, e7]
end Go.Ab
end
section
namespace Go.Ab
section
variable (s : ByteArray) (hs : s.size ≤ 1152921504606846976)
include hs
theorem tail_loop (K n : Nat) (hn : n < s.data.toList.length) : ∀ (m f i : Nat), m < f → n + 1 ≤ i + m → 2 ≤ i →
   onL (L_utf_tail_1_0 Rt0 K true f s n i) (K_utf_tail_1 Rt0 K true) = some ([.fz (.bool (((s.data.toList.drop i).take (n + 1 - i)).all contB))], []) := by
 have hbs := bytes_size s
 intro m
 induction m with
 | zero =>
   intro f i hf hi h2
   obtain ⟨f, rfl⟩ : ∃ m, f = m + 1 := ⟨f - 1, by omega⟩
   have e1 : decide ((i : Int) ≤ (n : Int)) = false := by simp; omega
   rw [L_utf_tail_1_0_eq, show n + 1 - i = 0 by omega]
   simp only [e1, ifB_false, onL_some, X_utf_tail_1_1_eq, List.take_zero, List.all_nil]
 | succ m ih =>
   intro f i hf hi h2
   obtain ⟨f, rfl⟩ : ∃ m, f = m + 1 := ⟨f - 1, by omega⟩
   by_cases hl : i ≤ n
   case neg =>
     have e1 : decide ((i : Int) ≤ (n : Int)) = false := by simp; omega
     rw [L_utf_tail_1_0_eq, show n + 1 - i = 0 by omega]
     simp only [e1, ifB_false, onL_some, X_utf_tail_1_1_eq, List.take_zero, List.all_nil]
   case pos =>
     have hi' : i < s.data.toList.length := by omega
     have e1 : decide ((i : Int) ≤ (n : Int)) = true := by simp; omega
     have e2 : decide ((0 : Int) ≤ (i : Int)) = true := by simp
     have e3 : decide ((i : Int) < (s.size : Int)) = true := by simp; omega
     have hw : IntKind.wrap .i64 ((i : Int) + 1) = ((i + 1 : Nat) : Int) := by rw [wrap64 (by omega) (by omega)]; omega
     have h := ih f (i + 1) (by omega) (by omega) (by omega)
     rw [L_utf_tail_1_0_eq, drop_cons hi', show n + 1 - i = (n + 1 - (i + 1)) + 1 by omega, List.take_succ_cons, List.all_cons]
     simp only [e1, e2, e3, ifB_true, Bool.and_true, when_true', Int.toNat_natCast, byteAt hi']
     generalize s.data.toList[i] = d
     by_cases h1 : d.toNat < 128
     · have a1 : decide ((d.toNat : Int) < 128) = true := by simp; omega
       have a2 : contB d = false := by simp [contB]; omega
       simp only [a1, a2, ifB_true, onL_some, X_utf_tail_1_0_eq, Bool.false_and]
     · have a1 : decide ((d.toNat : Int) < 128) = false := by simp; omega
       by_cases h3 : d.toNat ≤ 191
       · have a2 : decide ((d.toNat : Int) > 191) = false := by simp; omega
         have a3 : contB d = true := by simp [contB]; omega
         simp only [a1, a2, a3, ifB_false, hw, Bool.true_and]
         exact h
       · have a2 : decide ((d.toNat : Int) > 191) = true := by simp; omega
         have a3 : contB d = false := by simp [contB]; omega
         simp only [a1, a2, a3, ifB_false, ifB_true, onL_some, X_utf_tail_1_0_eq, Bool.false_and]
theorem tail_ok (n lo hi : Nat) (h1 : 1 ≤ n) (hn : n ≤ 1000) : Rt0 N_utf_tail [.fz (.str s), .fz (.int .i64 n), .fz (.int .u8 lo), .fz (.int .u8 hi)] = some ([.fz (.bool (tailB s.data.toList n lo hi))], []) := by
 have hbs := bytes_size s
 refine rt_call0 A_utf_tail rfl rfl (n + 2) ?_
 rw [E_utf_tail]
 by_cases hsz : s.size ≤ n
 ·have e1 : decide ((s.size : Int) ≤ (n : Int)) = true := by simp; omega
  have ht : tailB s.data.toList n lo hi = false := by
   match hq : s.data.toList with
   | [] => rfl
   | [_] => rfl
   | a :: b :: r =>
    rw [hq] at hbs
    simp only [List.length_cons] at hbs
    simp only [tailB]
    have : decide (n ≤ r.length + 1) = false := by simp; omega
    rw [this]
    simp
  simp only [e1, ht, ifB_true]
 ·have e1 : decide ((s.size : Int) ≤ (n : Int)) = false := by simp; omega
  have e2 : decide (1 < (s.size : Int)) = true := by simp; omega
  have hl : 1 < s.data.toList.length := by omega
  have hlo := tail_loop s hs (n + 2) n (by omega) n (n + 2) 2 (by omega) (by omega) (by omega)
  have hb := byteAt hl
  have hd : s.data.toList = s.data.toList[0] :: s.data.toList[1] :: s.data.toList.drop 2 := by
   have a1 := drop_cons (show 0 < s.data.toList.length by omega)
   have a2 := drop_cons hl
   rw [List.drop_zero] at a1
   rw [← a2]; exact a1
  have ht : tailB s.data.toList n lo hi = (decide (lo ≤ s.data.toList[1].toNat ∧ s.data.toList[1].toNat ≤ hi) && ((s.data.toList.drop 2).take (n + 1 - 2)).all contB) := by
   have hlen : (s.data.toList.drop 2).length + 2 = s.size := by rw [List.length_drop]; omega
   have e3 : decide (n ≤ (s.data.toList.drop 2).length + 1) = true := by simp only [decide_eq_true_eq]; omega
   have : ∀ l : List UInt8, l = s.data.toList[0] :: s.data.toList[1] :: s.data.toList.drop 2 → tailB l n lo hi = (decide (lo ≤ s.data.toList[1].toNat ∧ s.data.toList[1].toNat ≤ hi) && ((s.data.toList.drop 2).take (n + 1 - 2)).all contB) := fun l hl' => by
    rw [hl']
    simp only [tailB, e3, Bool.true_and, show n + 1 - 2 = n - 1 by omega]
   exact this _ hd
  rw [ht]
  simp only [e1, e2, ifB_false, when_true', hb, jump_true, J_utf_tail_2_0_eq]
  rw [show ((2 : Nat) : Int) = 2 from rfl] at hlo
  rw [hlo]
  generalize s.data.toList[1] = d
  by_cases h1 : lo ≤ d.toNat
  ·have a1 : decide ((d.toNat : Int) < (lo : Int)) = false := by simp; omega
   by_cases h3 : d.toNat ≤ hi
   ·have a2 : decide ((d.toNat : Int) > (hi : Int)) = false := by simp; omega
    simp only [a1, a2, ifB_false, decide_eq_true (show lo ≤ d.toNat ∧ d.toNat ≤ hi from ⟨h1, h3⟩), Bool.true_and]
   ·have a2 : decide ((d.toNat : Int) > (hi : Int)) = true := by simp; omega
    simp only [a1, a2, ifB_false, ifB_true, decide_eq_false (show ¬ (lo ≤ d.toNat ∧ d.toNat ≤ hi) by omega), Bool.false_and]
  ·have a1 : decide ((d.toNat : Int) < (lo : Int)) = true := by simp; omega
   simp only [a1, ifB_true, decide_eq_false (show ¬ (lo ≤ d.toNat ∧ d.toNat ≤ hi) by omega), Bool.false_and]
theorem size_ok (hne : 0 < s.data.toList.length) : Rt0 N_utf_size [.fz (.str s)] = some ([.fz (.int .i64 (sizeB s.data.toList : Int))], []) := by
 have hbs := bytes_size s
 refine rt_call0 A_utf_size rfl rfl 0 ?_
 rw [E_utf_size]
 have e0 : decide (0 < (s.size : Int)) = true := by simp; omega
 have T1 := tail_ok s hs 1 128 191 (by omega) (by omega)
 rw [show ((1 : Nat) : Int) = 1 from rfl, show ((128 : Nat) : Int) = 128 from rfl, show ((191 : Nat) : Int) = 191 from rfl] at T1
 have T2 := tail_ok s hs 2 160 191 (by omega) (by omega)
 rw [show ((2 : Nat) : Int) = 2 from rfl, show ((160 : Nat) : Int) = 160 from rfl, show ((191 : Nat) : Int) = 191 from rfl] at T2
 have T3 := tail_ok s hs 2 128 191 (by omega) (by omega)
 rw [show ((2 : Nat) : Int) = 2 from rfl, show ((128 : Nat) : Int) = 128 from rfl, show ((191 : Nat) : Int) = 191 from rfl] at T3
 have T4 := tail_ok s hs 2 128 159 (by omega) (by omega)
 rw [show ((2 : Nat) : Int) = 2 from rfl, show ((128 : Nat) : Int) = 128 from rfl, show ((159 : Nat) : Int) = 159 from rfl] at T4
 have T5 := tail_ok s hs 3 144 191 (by omega) (by omega)
 rw [show ((3 : Nat) : Int) = 3 from rfl, show ((144 : Nat) : Int) = 144 from rfl, show ((191 : Nat) : Int) = 191 from rfl] at T5
 have T6 := tail_ok s hs 3 128 191 (by omega) (by omega)
 rw [show ((3 : Nat) : Int) = 3 from rfl, show ((128 : Nat) : Int) = 128 from rfl, show ((191 : Nat) : Int) = 191 from rfl] at T6
 have T7 := tail_ok s hs 3 128 143 (by omega) (by omega)
 rw [show ((3 : Nat) : Int) = 3 from rfl, show ((128 : Nat) : Int) = 128 from rfl, show ((143 : Nat) : Int) = 143 from rfl] at T7
 have hd : s.data.toList = s.data.toList[0] :: s.data.toList.drop 1 := by
  have a1 := drop_cons hne
  rwa [List.drop_zero] at a1
 have hsz : sizeB s.data.toList = (if s.data.toList[0].toNat < 128 then 1
  else if decide (194 ≤ s.data.toList[0].toNat) && (decide (s.data.toList[0].toNat ≤ 223) && tailB s.data.toList 1 128 191) then 2
  else if (decide (s.data.toList[0].toNat = 224) && tailB s.data.toList 2 160 191) || ((decide (225 ≤ s.data.toList[0].toNat) && (decide (s.data.toList[0].toNat ≤ 239) && (!decide (s.data.toList[0].toNat = 237) && tailB s.data.toList 2 128 191))) || (decide (s.data.toList[0].toNat = 237) && tailB s.data.toList 2 128 159)) then 3
  else if (decide (s.data.toList[0].toNat = 240) && tailB s.data.toList 3 144 191) || ((decide (241 ≤ s.data.toList[0].toNat) && (decide (s.data.toList[0].toNat ≤ 243) && tailB s.data.toList 3 128 191)) || (decide (s.data.toList[0].toNat = 244) && tailB s.data.toList 3 128 143)) then 4
  else 0) := by
  generalize hg : s.data.toList[0] = c at *
  generalize s.data.toList.drop 1 = r at hd
  rw [hd]
  simp only [sizeB]
 rw [hsz]
 simp only [e0, when_true', byteAt hne]
 generalize tailB s.data.toList 1 128 191 = t1 at *
 generalize tailB s.data.toList 2 160 191 = t2 at *
 generalize tailB s.data.toList 2 128 191 = t3 at *
 generalize tailB s.data.toList 2 128 159 = t4 at *
 generalize tailB s.data.toList 3 144 191 = t5 at *
 generalize tailB s.data.toList 3 128 191 = t6 at *
 generalize tailB s.data.toList 3 128 143 = t7 at *
 generalize s.data.toList[0] = c
 have d0 : decide ((c.toNat : Int) < 128) = decide (c.toNat < 128) := decide_eq_decide.2 (by omega)
 have d1 : decide ((c.toNat : Int) ≥ 194) = decide (194 ≤ c.toNat) := decide_eq_decide.2 (by omega)
 have d2 : decide ((c.toNat : Int) ≤ 223) = decide (c.toNat ≤ 223) := decide_eq_decide.2 (by omega)
 have d3 : ((c.toNat : Int) == 224) = decide (c.toNat = 224) := by rw [Bool.eq_iff_iff]; simp; omega
 have d4 : decide ((c.toNat : Int) ≥ 225) = decide (225 ≤ c.toNat) := decide_eq_decide.2 (by omega)
 have d5 : decide ((c.toNat : Int) ≤ 239) = decide (c.toNat ≤ 239) := decide_eq_decide.2 (by omega)
 have d6 : ((c.toNat : Int) != 237) = !decide (c.toNat = 237) := by rw [Bool.eq_iff_iff]; simp; omega
 have d7 : ((c.toNat : Int) == 237) = decide (c.toNat = 237) := by rw [Bool.eq_iff_iff]; simp; omega
 have d8 : ((c.toNat : Int) == 240) = decide (c.toNat = 240) := by rw [Bool.eq_iff_iff]; simp; omega
 have d9 : decide ((c.toNat : Int) ≥ 241) = decide (241 ≤ c.toNat) := decide_eq_decide.2 (by omega)
 have d10 : decide ((c.toNat : Int) ≤ 243) = decide (c.toNat ≤ 243) := decide_eq_decide.2 (by omega)
 have d11 : ((c.toNat : Int) == 244) = decide (c.toNat = 244) := by rw [Bool.eq_iff_iff]; simp; omega
 generalize decide (c.toNat = 237) = q7 at d6 d7 ⊢
 generalize decide (c.toNat = 244) = q4 at d11 ⊢
 have J3 : ∀ x : Bool, J_utf_size_3_0 Rt0 0 true s c.toNat x = some ([.fz (.int .i64 (if x || (q4 && t7) then 4 else 0))], []) := fun x => by
  rw [J_utf_size_3_0_eq, d11]
  cases x with
  | true => simp
  | false => cases q4 <;> cases t7 <;> simp [T7, onR_some]
 have J4 : ∀ x : Bool, J_utf_size_4_0 Rt0 0 true s c.toNat x = some ([.fz (.int .i64 (if x || ((decide (241 ≤ c.toNat) && (decide (c.toNat ≤ 243) && t6)) || (q4 && t7)) then 4 else 0))], []) := fun x => by
  rw [J_utf_size_4_0_eq, d9, d10]
  cases x with
  | true => simp
  | false => cases decide (241 ≤ c.toNat) <;> cases decide (c.toNat ≤ 243) <;> cases t6 <;> simp [T6, onR_some, J3]
 have J6 : ∀ x : Bool, J_utf_size_6_0 Rt0 0 true s c.toNat x = some ([.fz (.int .i64 (if x then 3 else if (decide (c.toNat = 240) && t5) || ((decide (241 ≤ c.toNat) && (decide (c.toNat ≤ 243) && t6)) || (q4 && t7)) then 4 else 0))], []) := fun x => by
  rw [J_utf_size_6_0_eq, d8]
  cases x with
  | true => simp
  | false => cases decide (c.toNat = 240) <;> cases t5 <;> simp [T5, onR_some, J4]
 have J1 : ∀ x : Bool, J_utf_size_1_0 Rt0 0 true s c.toNat x = J_utf_size_6_0 Rt0 0 true s c.toNat (x || (q7 && t4)) := fun x => by
  rw [J_utf_size_1_0_eq, d7]
  cases x with
  | true => simp
  | false => cases q7 <;> simp [T4, onR_some]
 have J2 : ∀ x : Bool, J_utf_size_2_0 Rt0 0 true s c.toNat x = J_utf_size_6_0 Rt0 0 true s c.toNat (x || ((decide (225 ≤ c.toNat) && (decide (c.toNat ≤ 239) && (!q7 && t3))) || (q7 && t4))) := fun x => by
  rw [J_utf_size_2_0_eq, d4, d5, d6]
  cases x with
  | true => simp
  | false => cases decide (225 ≤ c.toNat) <;> cases decide (c.toNat ≤ 239) <;> cases q7 <;> simp [T3, onR_some, J1]
 have J8 : ∀ x : Bool, J_utf_size_8_0 Rt0 0 true s c.toNat x = (if x then some ([.fz (.int .i64 2)], []) else J_utf_size_6_0 Rt0 0 true s c.toNat ((decide (c.toNat = 224) && t2) || ((decide (225 ≤ c.toNat) && (decide (c.toNat ≤ 239) && (!q7 && t3))) || (q7 && t4)))) := fun x => by
  rw [J_utf_size_8_0_eq, d3]
  cases x with
  | true => simp
  | false => cases decide (c.toNat = 224) <;> simp [T2, onR_some, J2]
 rw [d0, d1, d2]
 by_cases h0 : c.toNat < 128
 ·simp [h0]
 ·simp only [decide_eq_false h0, if_neg h0, ifB_false]
  have R8 : ∀ x : Bool, J_utf_size_8_0 Rt0 0 true s c.toNat x = some ([.fz (.int .i64 ((if x then 2 else if (decide (c.toNat = 224) && t2) || ((decide (225 ≤ c.toNat) && (decide (c.toNat ≤ 239) && (!q7 && t3))) || (q7 && t4)) then 3 else if (decide (c.toNat = 240) && t5) || ((decide (241 ≤ c.toNat) && (decide (c.toNat ≤ 243) && t6)) || (q4 && t7)) then 4 else 0 : Nat) : Int))], []) := fun x => by
   rw [J8, J6]
   cases x with
   | true => simp only [if_true]; exact Eq.refl _
   | false =>
    simp only [Bool.false_eq_true, if_false]
    generalize ((decide (c.toNat = 224) && t2) || ((decide (225 ≤ c.toNat) && (decide (c.toNat ≤ 239) && (!q7 && t3))) || (q7 && t4))) = u1
    generalize ((decide (c.toNat = 240) && t5) || ((decide (241 ≤ c.toNat) && (decide (c.toNat ≤ 243) && t6)) || (q4 && t7))) = u2
    cases u1 <;> cases u2 <;> exact Eq.refl _
  cases decide (194 ≤ c.toNat) <;> cases decide (c.toNat ≤ 223) <;> simp only [ifB_true, ifB_false, jump_true, R8, Bool.false_and, Bool.true_and, Bool.and_false] <;> try exact Eq.refl _
  rw [T1]
  simp only [onR_some, List.isEmpty_nil, allF_cons, allF_nil, Bool.and_true, when_true', List.getD_cons_zero, toF_fz, isBool_bool, toBool_bool, jump_true, R8]
end
theorem valid_ok (s : ByteArray) (hs : s.size ≤ 1152921504606846976) : Rt0 N_utf_Valid [.fz (.str s)] = some ([.fz (.bool (signsL s.data.toList).isSome)], []) := by
  have loop : ∀ (n : Nat) (K f : Nat) (s : ByteArray), s.size ≤ 1152921504606846976 → n < f → s.data.toList.length ≤ n → onL (L_utf_Valid_1_0 Rt0 K true f s) (K_utf_Valid_1 Rt0 K true) = some ([.fz (.bool (signsN n s.data.toList).isSome)], []) := by
    intro n
    induction n with
    | zero =>
      intro K f s hs hf hl
      obtain ⟨f, rfl⟩ : ∃ m, f = m + 1 := ⟨f - 1, by omega⟩
      have h0 : s.data.toList = [] := List.length_eq_zero_iff.1 (by omega)
      have e1 : (s.toList == (⟨#[]⟩ : ByteArray).toList) = true := by rw [ByteArray.toList_eq, ByteArray.toList_eq, h0]; rfl
      rw [L_utf_Valid_1_0_eq, h0]
      simp only [e1, Bool.not_true, ifB_false, onL_some, X_utf_Valid_1_1_eq, signsN, Option.isSome]
    | succ n ih =>
      intro K f s hs hf hl
      obtain ⟨f, rfl⟩ : ∃ m, f = m + 1 := ⟨f - 1, by omega⟩
      have hbs := bytes_size s
      by_cases h0 : s.data.toList = []
      · have e1 : (s.toList == (⟨#[]⟩ : ByteArray).toList) = true := by rw [ByteArray.toList_eq, ByteArray.toList_eq, h0]; rfl
        rw [L_utf_Valid_1_0_eq, h0]
        simp only [e1, Bool.not_true, ifB_false, onL_some, X_utf_Valid_1_1_eq, signsN, Option.isSome]
      · have hne : 0 < s.data.toList.length := List.length_pos_iff.2 h0
        have e1 : (s.toList == (⟨#[]⟩ : ByteArray).toList) = false := by rw [ByteArray.toList_eq, ByteArray.toList_eq]; simpa using h0
        obtain ⟨c, r, hcr⟩ : ∃ c r, s.data.toList = c :: r := by
          cases hq : s.data.toList with
          | nil => exact absurd hq h0
          | cons c r => exact ⟨c, r, rfl⟩
        have hsz := size_ok s hs hne
        rw [L_utf_Valid_1_0_eq]
        have hk := size_sgn c r
        rw [← hcr] at hk
        rw [hcr]
        simp only [signsN]
        rw [← hcr]
        cases hg : sgn s.data.toList with
        | none =>
          rw [hg] at hk
          rw [hk] at hsz
          simp only [e1, Bool.not_false, ifB_true, hsz, onR_some, List.isEmpty_nil, allF_cons, allF_nil, Bool.and_true, when_true', List.getD_cons_zero, toF_fz, isInt_int, toInt_int, show (((0 : Nat) : Int) == 0) = true from rfl, onL_some, X_utf_Valid_1_0_eq, Option.isSome]
        | some p =>
          obtain ⟨v, k⟩ := p
          obtain ⟨k1, k2, _, _⟩ := sgn_pos hg
          rw [hg] at hk
          simp only [] at hk
          rw [hk] at hsz
          have a1 : ((k : Int) == 0) = false := by simp; omega
          have a2 : decide ((0 : Int) ≤ (s.size : Int)) = true := by simp
          have a3 : decide ((s.size : Int) ≤ (s.size : Int)) = true := by simp
          have a4 : decide ((0 : Int) ≤ (k : Int)) = true := by simp
          have a5 : decide ((k : Int) ≤ (s.size : Int)) = true := by simp; omega
          have hex : (ByteArray.extract s k s.size).data.toList = s.data.toList.drop k := by
            have := extract_list s k s.size
            rw [ByteArray.toList_eq] at this
            rw [this, ← hbs, List.take_length]
          have h2 := ih K f (ByteArray.extract s k s.size) (by have := bytes_size (ByteArray.extract s k s.size); rw [hex, List.length_drop] at this; omega) (by omega) (by rw [hex, List.length_drop]; omega)
          rw [hex] at h2
          simp only [e1, Bool.not_false, ifB_true, hsz, onR_some, List.isEmpty_nil, allF_cons, allF_nil, Bool.and_true, when_true', List.getD_cons_zero, toF_fz, isInt_int, toInt_int, a1, a2, a3, a4, a5, ifB_false, Int.toNat_natCast, h2]
          cases signsN n (s.data.toList.drop k) <;> rfl
  refine rt_call0 A_utf_Valid rfl rfl (s.data.toList.length + 1) ?_
  rw [E_utf_Valid]
  exact loop s.data.toList.length _ _ s hs (by omega) (Nat.le_refl _)
end Go.Ab
end
section
namespace Go.Ab
def qB (l : List UInt8) : ByteArray := ⟨l.toArray⟩
theorem qB_self (s : ByteArray) : qB s.data.toList = s := by unfold qB; rw [Array.toArray_toList]
theorem get_drop {s : ByteArray} {pos j : Nat} {x : UInt8} (h : (s.data.toList.drop pos)[j]? = some x) : s.get! (pos + j) = x ∧ pos + j < s.size := by
 rw [List.getElem?_drop] at h
 obtain ⟨h1, h2⟩ := List.getElem?_eq_some_iff.1 h
 have hlt : pos + j < s.size := by simpa using h1
 refine ⟨?_, hlt⟩
 have : s.get! (pos + j) = s.data[pos + j]'(by simpa using h1) := by
  simp [ByteArray.get!, getElem!_pos, hlt]
 rw [this, ← h2]; simp
theorem putB_len (c : Int) : (putB c).length = if c < 128 then 1 else if c < 2048 then 2 else if c < 65536 then 3 else 4 := by
 unfold putB
 repeat' split
 all_goals rfl
theorem toB_len (l : List Int) : (toB l).length = l.length := by simp [toB]
theorem sgn_facts {l : List UInt8} {c : Int} {k : Nat} (h : sgn l = some (c, k)) : 0 ≤ c ∧ c ≤ 1114111 ∧ ¬ (55296 ≤ c ∧ c < 57344) ∧ toB (putB c) = l.take k ∧ 1 ≤ k ∧ k ≤ l.length := by
 obtain ⟨h1, h2, h3, h4⟩ := sgn_pos h
 cases l with
 | nil => cases h
 | cons b r =>
  simp only [sgn] at h
  split at h
  ·cases h
  ·split at h
   ·cases h
   ·split at h
    ·cases h
    ·rename_i hq
     cases h
     refine ⟨h3, h4, fun e => hq (.inr (.inl e)), ?_, h1, h2⟩
     exact Classical.byContradiction fun e => hq (.inr (.inr e))
theorem dec_sgn {s : ByteArray} {pos : Nat} {c : Int} {k : Nat} (h : sgn (s.data.toList.drop pos) = some (c, k)) : Utf8.decode s pos = (c.toNat, k) := by
  obtain ⟨hc0, hc1, hc2, hp, hk1, hk2⟩ := sgn_facts h
  generalize hl : s.data.toList.drop pos = l at h hp hk2
  have hsl : s.size - pos = l.length := by rw [← hl, List.length_drop, Array.length_toList]; rfl
  have gd : ∀ j x, l[j]? = some x → s.get! (pos + j) = x := fun j x hj => (get_drop (by rw [hl]; exact hj)).1
  have hlen := congrArg List.length hp
  rw [toB_len, putB_len, List.length_take, Nat.min_eq_left hk2] at hlen
  cases l with
  | nil => cases h
  | cons b r =>
    have g0 := gd 0 b rfl
    rw [Lib.decode_at, hsl, show s.get! pos = b from g0]
    have hb := u8_le b
    simp only [sgn] at h
    split at h
    · cases h
    · rename_i hbad
      split at h
      · cases h
      · rename_i v hv
        split at h
        · cases h
        · cases h
          by_cases c1 : b.toNat < 128
          · have hN : headN b.toNat = 1 := by unfold headN; rw [if_neg (by omega), if_neg (by omega), if_neg (by omega)]
            have hC : headC b.toNat = b.toNat := by unfold headC; rw [if_neg (by omega), if_neg (by omega), if_neg (by omega)]
            rw [hN, hC] at hv
            rw [hN]
            simp only [Nat.sub_self, cont] at hv
            cases hv
            simp [Lib.decodeN, c1]
          · by_cases c2 : b.toNat < 224
            · have hN : headN b.toNat = 2 := by unfold headN; rw [if_neg (by omega), if_neg (by omega), if_pos (by omega)]
              have hC : headC b.toNat = b.toNat - 192 := by unfold headC; rw [if_neg (by omega), if_neg (by omega), if_pos (by omega)]
              rw [hN, hC] at hv
              rw [hN] at hlen ⊢
              cases r with
              | nil => simp only [cont] at hv; cases hv
              | cons d r =>
                have g1 := gd 1 d rfl
                have hd := u8_le d
                simp only [cont] at hv
                split at hv
                · rename_i hd1
                  cases hv
                  rw [g1]
                  have hr : 1 < (b :: d :: r).length := by simp
                  have q : 128 ≤ b.toNat % 32 * 64 + d.toNat % 64 := by
                    have : ¬ (64 * ((b.toNat : Int) - 192) + (d.toNat : Int) - 128 < 128) := fun e => by rw [if_pos e] at hlen; omega
                    omega
                  unfold Lib.decodeN
                  rw [if_neg c1, if_pos ⟨by omega, hr, by omega⟩, if_pos q]
                  congr 1
                  omega
                · cases hv
            · by_cases c3 : b.toNat < 240
              · have hN : headN b.toNat = 3 := by unfold headN; rw [if_neg (by omega), if_pos (by omega)]
                have hC : headC b.toNat = b.toNat - 224 := by unfold headC; rw [if_neg (by omega), if_pos (by omega)]
                rw [hN, hC] at hv
                rw [hN] at hlen ⊢
                cases r with
                | nil => simp only [cont] at hv; cases hv
                | cons d r => cases r with
                  | nil => simp only [cont] at hv; split at hv <;> cases hv
                  | cons f r =>
                    have g1 := gd 1 d rfl
                    have g2 := gd 2 f rfl
                    have hd := u8_le d
                    have hf := u8_le f
                    simp only [cont] at hv
                    split at hv
                    · split at hv
                      · rename_i hd1 hf1
                        cases hv
                        rw [g1, g2]
                        have hr : 1 < (b :: d :: f :: r).length := by simp
                        have hr2 : 2 < (b :: d :: f :: r).length := by simp
                        have q : ¬ (64 * (64 * ((b.toNat : Int) - 224) + (d.toNat : Int) - 128) + (f.toNat : Int) - 128 < 2048) := fun e => by
                          split at hlen
                          · omega
                          · first | omega | (rw [if_pos e] at hlen; omega)
                        unfold Lib.decodeN
                        rw [if_neg c1, if_neg (by omega), if_pos ⟨by omega, ⟨hr, by omega⟩, hr2, by omega⟩, if_pos (by omega)]
                        congr 1
                        omega
                      · cases hv
                    · cases hv
              · have hN : headN b.toNat = 4 := by unfold headN; rw [if_pos (by omega)]
                have hC : headC b.toNat = b.toNat - 240 := by unfold headC; rw [if_pos (by omega)]
                rw [hN, hC] at hv
                rw [hN] at hlen ⊢
                cases r with
                | nil => simp only [cont] at hv; cases hv
                | cons d r => cases r with
                  | nil => simp only [cont] at hv; split at hv <;> cases hv
                  | cons f r => cases r with
                    | nil => simp only [cont] at hv; split at hv <;> (try split at hv) <;> cases hv
                    | cons m r =>
                      have g1 := gd 1 d rfl
                      have g2 := gd 2 f rfl
                      have g3 := gd 3 m rfl
                      have hd := u8_le d
                      have hf := u8_le f
                      have hm := u8_le m
                      simp only [cont] at hv
                      split at hv
                      · split at hv
                        · split at hv
                          · rename_i hd1 hf1 hm1
                            cases hv
                            rw [g1, g2, g3]
                            have hr : 1 < (b :: d :: f :: m :: r).length := by simp
                            have hr2 : 2 < (b :: d :: f :: m :: r).length := by simp
                            have hr3 : 3 < (b :: d :: f :: m :: r).length := by simp
                            have q : ¬ (64 * (64 * (64 * ((b.toNat : Int) - 240) + (d.toNat : Int) - 128) + (f.toNat : Int) - 128) + (m.toNat : Int) - 128 < 65536) := fun e => by
                              split at hlen
                              · omega
                              · split at hlen
                                · omega
                                · first | omega | (rw [if_pos e] at hlen; omega)
                            unfold Lib.decodeN
                            rw [if_neg c1, if_neg (by omega), if_neg (by omega), if_pos ⟨by omega, ⟨hr, by omega⟩, ⟨hr2, by omega⟩, hr3, by omega⟩, if_pos (by omega)]
                            congr 1
                            omega
                          · cases hv
                        · cases hv
                      · cases hv
theorem enc_put {c : Int} (h0 : 0 ≤ c) (h1 : c ≤ 1114111) (h2 : ¬ (55296 ≤ c ∧ c < 57344)) : (Utf8.encode c).data.toList = toB (putB c) := by
 obtain ⟨m, rfl⟩ : ∃ m : Nat, c = m := ⟨c.toNat, by omega⟩
 have hv : Utf8.valid (m : Int) = true := by
  simp only [Utf8.valid, Bool.or_eq_true, Bool.and_eq_true, decide_eq_true_eq]; omega
 unfold Utf8.encode
 simp only [hv, if_true, Int.toNat_natCast]
 unfold putB toB
 by_cases c1 : m < 128
 ·rw [if_pos c1, if_pos (show (m : Int) < 128 by omega)]; rfl
 ·rw [if_neg c1, if_neg (show ¬ (m : Int) < 128 by omega)]
  by_cases c2 : m < 2048
  ·rw [if_pos c2, if_pos (show (m : Int) < 2048 by omega)]
   simp only [List.map_cons, List.map_nil, show ((192 + (m : Int) / 64).toNat) = 192 + m / 64 by omega, show ((128 + (m : Int) % 64).toNat) = 128 + m % 64 by omega]
  ·rw [if_neg c2, if_neg (show ¬ (m : Int) < 2048 by omega)]
   by_cases c3 : m < 65536
   ·rw [if_pos c3, if_pos (show (m : Int) < 65536 by omega)]
    simp only [List.map_cons, List.map_nil, show ((224 + (m : Int) / 4096).toNat) = 224 + m / 4096 by omega, show ((128 + (m : Int) / 64 % 64).toNat) = 128 + m / 64 % 64 by omega, show ((128 + (m : Int) % 64).toNat) = 128 + m % 64 by omega]
   ·rw [if_neg c3, if_neg (show ¬ (m : Int) < 65536 by omega)]
    simp only [List.map_cons, List.map_nil, show ((240 + (m : Int) / 262144).toNat) = 240 + m / 262144 by omega, show ((128 + (m : Int) / 4096 % 64).toNat) = 128 + m / 4096 % 64 by omega, show ((128 + (m : Int) / 64 % 64).toNat) = 128 + m / 64 % 64 by omega, show ((128 + (m : Int) % 64).toNat) = 128 + m % 64 by omega]
inductive SgAt (s : ByteArray) : Nat → List Int → Prop
  | nil (pos : Nat) (h : s.size ≤ pos) : SgAt s pos []
  | cons (pos k : Nat) (c : Int) (cs : List Int) (hd : Utf8.decode s pos = (c.toNat, k)) (h : pos < s.size) (hk : 1 ≤ k) (hk2 : pos + k ≤ s.size) (h0 : 0 ≤ c) (h1 : c ≤ 1114111) (h2 : ¬ (55296 ≤ c ∧ c < 57344)) (hb : toB (putB c) = (s.data.toList.drop pos).take k) (r : SgAt s (pos + k) cs) : SgAt s pos (c :: cs)
theorem sgAt_of {s : ByteArray} : ∀ (n pos : Nat) (cs : List Int), signsN n (s.data.toList.drop pos) = some cs → SgAt s pos cs := by
 have hsz : s.data.toList.length = s.size := bytes_size s
 intro n
 induction n with
 | zero =>
  intro pos cs h
  cases hl : s.data.toList.drop pos with
  | nil =>
   rw [hl] at h
   cases h
   exact .nil pos (by have := List.drop_eq_nil_iff.1 hl; omega)
  | cons b r => rw [hl] at h; cases h
 | succ n ih =>
  intro pos cs h
  cases hl : s.data.toList.drop pos with
  | nil =>
   rw [hl] at h
   cases h
   exact .nil pos (by have := List.drop_eq_nil_iff.1 hl; omega)
  | cons b r =>
   have hp : pos < s.size := by
    have := congrArg List.length hl
    rw [List.length_drop, hsz] at this
    simp at this; omega
   rw [hl] at h
   simp only [signsN] at h
   cases hs : sgn (b :: r) with
   | none => rw [hs] at h; cases h
   | some p =>
    obtain ⟨c, k⟩ := p
    rw [hs] at h
    simp only at h
    obtain ⟨ds, hds, rfl⟩ := Option.map_eq_some_iff.1 h
    rw [← hl] at hs hds
    obtain ⟨f0, f1, f2, f3, f4, f5⟩ := sgn_facts hs
    rw [List.drop_drop] at hds
    rw [List.length_drop, hsz] at f5
    exact .cons pos k c ds (dec_sgn hs) hp f4 (by omega) f0 f1 f2 f3 (ih _ _ hds)
theorem sgAt_start {s : ByteArray} {cs : List Int} (h : signsL s.data.toList = some cs) : SgAt s 0 cs := sgAt_of _ 0 cs (by simpa [signsL] using h)
theorem SgAt.len {s : ByteArray} {pos : Nat} {cs : List Int} (h : SgAt s pos cs) (hp : pos ≤ s.size) : cs.length + pos ≤ s.size := by
 induction h with
 | nil pos h => simp; omega
 | cons pos k c cs hd h hk hk2 h0 h1 h2 hb r ih => have := ih (by omega); simp; omega
theorem SgAt.bytes {s : ByteArray} {pos : Nat} {cs : List Int} (h : SgAt s pos cs) : s.data.toList.drop pos = toB (cs.flatMap putB) := by
 induction h with
 | nil pos h => rw [List.drop_eq_nil_of_le (by rw [bytes_size]; exact h)]; rfl
 | cons pos k c cs hd h hk hk2 h0 h1 h2 hb r ih =>
  rw [← List.take_append_drop k (s.data.toList.drop pos), ← hb, List.drop_drop, ih]
  simp [toB, List.flatMap_cons]
theorem SgAt.fine {s : ByteArray} {pos : Nat} {cs : List Int} (h : SgAt s pos cs) : ∀ c ∈ cs, 0 ≤ c ∧ c ≤ 1114111 ∧ ¬ (55296 ≤ c ∧ c < 57344) := by
 induction h with
 | nil pos h => intro c hc; cases hc
 | cons pos k c cs hd h hk hk2 h0 h1 h2 hb r ih =>
  intro d hd
  rcases List.mem_cons.1 hd with rfl | hd
  ·exact ⟨h0, h1, h2⟩
  ·exact ih d hd
end Go.Ab
end
section
namespace Go.Ab
def cells (l : List UInt8) : List FV := l.map fun b => .int .u8 ((b.toNat : Nat) : Int)
theorem cells_app (a b : List UInt8) : cells (a ++ b) = cells a ++ cells b := by simp [cells]
theorem cells_len (a : List UInt8) : (cells a).length = a.length := by simp [cells]
theorem cells_all (a : List UInt8) : List.all (cells a) (FV.isInt .u8) = true := by simp [cells]
theorem cells_fits (a : List UInt8) : List.all (cells a) (FV.fits 1 false) = true := by simp [cells]
theorem cells_back (a : List UInt8) : (⟨(List.map (fun e => UInt8.ofNat (FV.toInt e).toNat) (cells a)).toArray⟩ : ByteArray) = qB a := by
 have : List.map (fun e => UInt8.ofNat (FV.toInt e).toNat) (cells a) = a := by
  unfold cells
  rw [List.map_map]
  conv => rhs; rw [← List.map_id a]
  exact List.map_congr_left fun b _ => by simp
 rw [this]; rfl
theorem putB_range {c : Int} (h0 : 0 ≤ c) (h1 : c ≤ 1114111) : ∀ e ∈ putB c, 0 ≤ e ∧ e ≤ 255 := by
 intro e he
 unfold putB at he
 split at he
 ·simp at he; omega
 ·split at he
  ·simp at he; omega
  ·split at he
   ·simp at he; omega
   ·simp at he; omega
theorem put_cells {c : Int} (h0 : 0 ≤ c) (h1 : c ≤ 1114111) : (putB c).map (FV.int .u8) = cells (toB (putB c)) := by
 unfold cells toB
 rw [List.map_map]
 refine List.map_congr_left fun e he => ?_
 obtain ⟨a, b⟩ := putB_range h0 h1 e he
 simp only [Function.comp]
 rw [UInt8.toNat_ofNat_of_lt' (show e.toNat < 256 by omega), Int.toNat_of_nonneg a]
theorem getD_intQ (l : List Int) {i : Nat} (h : i < l.length) : List.getD (l.map (FV.int .i64)) i FV.nilp = .int .i64 l[i] := by
 simp [List.getD, h]
theorem room_ok {n : Nat} (h : n ≤ 140737488355328) : (decide (n * 1 ≤ roomy) && decide (n ≤ roomy)) = true := by
 have : roomy = 140737488355328 := rfl
 rw [Bool.and_eq_true, decide_eq_true_eq, decide_eq_true_eq]; omega
end Go.Ab
end
section
namespace Go.Ab
def hexB (c : Int) : UInt8 := ([48, 49, 50, 51, 52, 53, 54, 55, 56, 57, 97, 98, 99, 100, 101, 102] : List UInt8).getD c.toNat 0
def quoteB (c : Int) : List UInt8 :=
  if c = 34 then [92, 34] else if c = 92 then [92, 92] else if c = 8 then [92, 98] else if c = 9 then [92, 116] else if c = 10 then [92, 110] else if c = 12 then [92, 102] else if c = 13 then [92, 114]
  else if c < 32 then [92, 117, 48, 48, hexB (c / 16), hexB (c % 16)] else (Utf8.encode c).data.toList
theorem quoted_ok (c : Int) (h0 : 0 ≤ c) : Rt0 N_utf_quoted [.fz (.int .i32 c)] = some ([.fz (.str (qB (quoteB c)))], []) := by
 refine rt_call0 A_utf_quoted rfl rfl 0 ?_
 by_cases h : c < 32
 ·have h' : c = 0 ∨ c = 1 ∨ c = 2 ∨ c = 3 ∨ c = 4 ∨ c = 5 ∨ c = 6 ∨ c = 7 ∨ c = 8 ∨ c = 9 ∨ c = 10 ∨ c = 11 ∨ c = 12 ∨ c = 13 ∨ c = 14 ∨ c = 15 ∨ c = 16 ∨ c = 17 ∨ c = 18 ∨ c = 19 ∨ c = 20 ∨ c = 21 ∨ c = 22 ∨ c = 23 ∨ c = 24 ∨ c = 25 ∨ c = 26 ∨ c = 27 ∨ c = 28 ∨ c = 29 ∨ c = 30 ∨ c = 31 := by omega
  rcases h' with rfl | rfl | rfl | rfl | rfl | rfl | rfl | rfl | rfl | rfl | rfl | rfl | rfl | rfl | rfl | rfl | rfl | rfl | rfl | rfl | rfl | rfl | rfl | rfl | rfl | rfl | rfl | rfl | rfl | rfl | rfl | rfl
  all_goals (rw [E_utf_quoted]; first | rfl | exact (by kernel_rfl))
 ·rw [E_utf_quoted]
  unfold quoteB
  have e : ∀ n : Int, n < 32 → ¬ (c = n) := fun n hn e => h (by omega)
  by_cases h1 : c = 34
  ·subst h1; rfl
  ·by_cases h2 : c = 92
   ·subst h2; rfl
   ·rw [if_neg h1, if_neg h2, if_neg (e 8 (by omega)), if_neg (e 9 (by omega)), if_neg (e 10 (by omega)), if_neg (e 12 (by omega)), if_neg (e 13 (by omega)), if_neg h, qB_self]
    have b1 : (c == 34) = false := by simpa using h1
    have b2 : (c == 92) = false := by simpa using h2
    have b3 : (c == 8) = false := by simpa using e 8 (by omega)
    have b4 : (c == 9) = false := by simpa using e 9 (by omega)
    have b5 : (c == 10) = false := by simpa using e 10 (by omega)
    have b6 : (c == 12) = false := by simpa using e 12 (by omega)
    have b7 : (c == 13) = false := by simpa using e 13 (by omega)
    rw [b1, b2, b3, b4, b5, b6, b7, decide_eq_false h]
    rfl
theorem quoteB_len (c : Int) : (quoteB c).length ≤ 6 := by
 unfold quoteB
 repeat' split
 all_goals first | (simp; done) | skip
 have : ∀ r : Int, (Utf8.encode r).data.toList.length ≤ 4 := fun r => by
  unfold Utf8.encode
  simp only
  repeat' split
  all_goals simp
 have := this c
 omega
end Go.Ab
end
section
namespace Go.Proofs
open Go.Shelf
open Go.RowKit in
theorem Try.Builder_WriteString_k (B b : Nat) (bs : List Value) (s : ByteArray) (w : World) (h : Lib.IsBuilderF 69 5 B b bs w) (hlen : bs.length + s.size ≤ 140737488355328) (hBw : B ≤ w.heap.size) :
   Calls Try.prog 74 #[.pointer (some ⟨b, 0, none⟩), .string s] w fun e w' => e = .returned (.tuple #[.int .i64 s.size, .nilIface]) ∧ (Lib.BuilderAtF 69 5 B b (.pointer (some ⟨b, 0, none⟩)) (bs ++ Lib.strCells s) w' ∧ Below B w w' ∧ Lib.OthersKept 5 (some b) w w') := Any.Builder_WriteString_k Try.lays166 Try.Builder_Extra_105 B b bs s w h hlen hBw
open Go.RowKit in
theorem Try.Builder_String_any_k (B b : Nat) (l : List UInt8) (w : World) (h : Lib.IsBuilderF 69 5 B b (Lib.byteCells l) w) (hBw : B ≤ w.heap.size) :
   Calls Try.prog 28 #[.pointer (some ⟨b, 0, none⟩)] w fun e w' => e = .returned (.string ⟨l.toArray⟩) ∧ (Lib.IsBuilderF 69 5 B b (Lib.byteCells l) w' ∧ Below B w w' ∧ Lib.OthersKept 5 (some b) w w') := Any.Builder_String_any_k Try.lays169 Try.Builder_Extra_105 B b l w h hBw
end Go.Proofs
namespace Go.Ab
noncomputable section
open Go.Proofs Go.RowKit
def qFrom (s : ByteArray) : Nat → Nat → List UInt8
  | 0, _ => []
  | n + 1, pos => if pos < s.size then quoteB (Utf8.decode s pos).1 ++ qFrom s n (pos + (Utf8.decode s pos).2) else []
theorem qFrom_end (s : ByteArray) (n pos : Nat) (h : ¬ pos < s.size) : qFrom s n pos = [] := by
 cases n with
 | zero => rfl
 | succ n => simp [qFrom, h]
def qText (s : ByteArray) : List UInt8 := 34 :: (qFrom s s.size 0 ++ [34])
theorem glob_below {P : Program} {w w' : World} (hG : GlobOK P w (fun b => b < w.heap.size)) (b : Below w.heap.size w w') : GlobOK P w' (fun b => b < w'.heap.size) := hG.mono (fun _ h => Nat.lt_of_lt_of_le h b.size) fun i hi => b.block i hi
theorem call_valid (s : ByteArray) (hs : s.size ≤ 1152921504606846976) (w : World) (hG : GlobOK Try.prog w (fun b => b < w.heap.size)) : Calls Try.prog 88 #[.string s] w fun e w' => e = .returned (.bool (signsL s.data.toList).isSome) ∧ Below w.heap.size w w' := by
 refine (rr_calls tab0_ok (fs := [.str s]) (args := #[.string s]) (valid_ok s hs) hG ⟨.str s, trivial⟩).mono ?_
 rintro e w' ⟨v, rfl, b, S', R⟩
 cases R
 exact ⟨rfl, b⟩
theorem call_quoted (c : Int) (h0 : 0 ≤ c) (w : World) (hG : GlobOK Try.prog w (fun b => b < w.heap.size)) : Calls Try.prog 89 #[.int .i32 c] w fun e w' => e = .returned (.string (qB (quoteB c))) ∧ Below w.heap.size w w' := by
 refine (rr_calls tab0_ok (fs := [.int .i32 c]) (args := #[.int .i32 c]) (quoted_ok c h0) hG ⟨.int .i32 c, trivial⟩).mono ?_
 rintro e w' ⟨v, rfl, b, S', R⟩
 cases R
 exact ⟨rfl, b⟩
theorem qB_size (l : List UInt8) : (qB l).size = l.length := rfl
theorem alloc_le (w : World) (o : Obj) : w.heap.size ≤ (w.alloc o).heap.size := by simp
theorem alloc_lt (w : World) (o : Obj) : w.heap.size < (w.alloc o).heap.size := by simp
theorem below_down {B B' : Nat} {a w : World} (h : B' ≤ B) (k : Below B a w) : Below B' a w := ⟨k.os, k.tape, k.output, k.size, fun i hi => k.block i (Nat.lt_of_lt_of_le hi h)⟩
theorem dec_le (s : ByteArray) (pos : Nat) (h : pos < s.size) : (Utf8.decode s pos).2 ≤ s.size - pos := by
 rw [Lib.decode_at]; exact Lib.decodeN_width_le _ _ _ _ _ (by omega)
def qAns (s : ByteArray) : Value := if (signsL s.data.toList).isSome then .tuple #[.string (qB (qText s)), .int .i64 0] else .tuple #[.string ⟨#[]⟩, .int .i64 7]
set_option maxHeartbeats 4000000 in
set_option maxRecDepth 1000000 in
theorem quote_walk (s : ByteArray) (w : World) (hs : s.size ≤ 1099511627776) (hG : GlobOK Try.prog w (fun b => b < w.heap.size)) :
   Calls Try.prog 77 #[.string s] w fun e w' => e = .returned (qAns s) ∧ Below w.heap.size w w' := by
 have hsz' : s.size ≤ 1152921504606846976 := by omega
 go_enter Try.func77, Try.ntmps77
 go_wp2_with (go_at_call 88; refine (call_valid s hsz' _ hG).mono ?_)
 rintro e w1 ⟨rfl, b1⟩
 generalize hv : (signsL s.data.toList).isSome = v
 cases v with
 | false =>
   go_wp2
   go_ret2
   exact ⟨by unfold qAns; rw [hv]; rfl, b1⟩
 | true =>
   have hI0 : Lib.IsBuilderF 69 5 w1.heap.size w1.heap.size [] (w1.alloc (.cells #[.pointer none, .slice none 0 0] 69)) := Lib.IsBuilderF.of (Lib.fresh_isBuilder 69 5 w1)
   have hc := Try.Builder_WriteString_k w1.heap.size w1.heap.size [] ⟨#[34]⟩ (w1.alloc (.cells #[.pointer none, .slice none 0 0] 69)) hI0 (by decide) (alloc_le _ _)
   have hl0 := alloc_lt w1 (.cells #[.pointer none, .slice none 0 0] 69)
   have bA : Below w.heap.size w (w1.alloc (.cells #[.pointer none, .slice none 0 0] 69)) := b1.alloc b1.size _
   go_wp2_with (go_at_call 74; refine hc.mono ?_)
   rintro e w2 ⟨rfl, h2, b2, k2⟩
   have hs2 := b2.size
   have hs1 := b1.size
   have bB : Below w.heap.size w w2 := bA.trans (below_down b1.size b2)
   go_wp2
   go_loopw [] (fun wr => ∃ (pos fuel : Nat) (acc : List UInt8), Lib.IsBuilderF 69 5 w1.heap.size w1.heap.size (Lib.byteCells acc) wr ∧ wr.heap[w2.heap.size]? = some (.stringIter s pos) ∧ Below w.heap.size w wr ∧ acc ++ qFrom s fuel pos = 34 :: qFrom s s.size 0 ∧ s.size ≤ pos + fuel ∧ acc.length ≤ 1 + 6 * pos ∧ pos ≤ s.size) (fun wr => s.size - wr.iterPos w2.heap.size)
   case atStart =>
     refine ⟨0, s.size, [34], Lib.IsBuilderF.alloc (Or.inr h2) _, ?_, bB.alloc bB.size _, rfl, by omega, by decide, by omega⟩
     have := World.iter_heap w2 s 0
     simpa using this
   case round =>
     obtain ⟨pos, fuel, acc, hI, hit, hbw, hacc, hfu, hal, hps⟩ := hrel
     have hsz : w2.heap.size < wr.heap.size := (Array.getElem?_eq_some_iff.1 hit).1
     by_cases hp : pos < s.size
     · have hnx : ∀ ty, (Instr.next (.pointer (some ⟨w2.heap.size, 0, none⟩)) true ty).run Try.prog wr = _ := fun ty => Lib.run_next_any_at wr w2.heap.size s pos ty hit hp
       have hwd := Lib.decode_width_pos s pos hp
       have hwl := dec_le s pos hp
       have hI2 := hI.iterAt hit (pos + (Utf8.decode s pos).2)
       have hit2 := Lib.iterAt_heap wr w2.heap.size s pos (pos + (Utf8.decode s pos).2) hit
       have hbw2 := Lib.below_iterAt hbw (k := w2.heap.size) (by omega) s (pos + (Utf8.decode s pos).2)
       have hsz2 : w2.heap.size < (wr.iterAt w2.heap.size s (pos + (Utf8.decode s pos).2)).heap.size := by rw [Lib.iterAt_size]; exact hsz
       obtain ⟨f, rfl⟩ : ∃ f, fuel = f + 1 := ⟨fuel - 1, by omega⟩
       have hq := call_quoted ((Utf8.decode s pos).1 : Int) (Int.natCast_nonneg _) (wr.iterAt w2.heap.size s (pos + (Utf8.decode s pos).2)) (glob_below hG hbw2)
       have hql := quoteB_len ((Utf8.decode s pos).1 : Int)
       go_wp2_with (go_at_call 89; refine hq.mono ?_)
       rintro e w4 ⟨rfl, b4⟩
       have hI4 := builderF_below hI2 b4
       have hit4 : w4.heap[w2.heap.size]? = some (.stringIter s (pos + (Utf8.decode s pos).2)) := (b4.block _ hsz2).trans hit2
       have hs4 := b4.size
       have hbw4 := hbw2.trans (below_down hbw2.size b4)
       have hc4 := Try.Builder_WriteString_k w1.heap.size w1.heap.size _ (qB (quoteB ((Utf8.decode s pos).1 : Int))) w4 hI4 (by rw [Lib.byteCells_length, qB_size]; omega) (by omega)
       go_wp2_with (go_at_call 74; refine hc4.mono ?_)
       rintro e w5 ⟨rfl, h5, b5, k5⟩
       go_wp2
       go_roundw
       case rel =>
         refine ⟨pos + (Utf8.decode s pos).2, f, acc ++ quoteB ((Utf8.decode s pos).1 : Int), ?_, k5.iter hit4 (by omega), hbw4.trans (below_down (by omega) b5), ?_, by omega, by simp; omega, by omega⟩
         · rw [Lib.byteCells_append]; exact Or.inr h5
         · rw [← hacc]; simp [qFrom, hp]
       case measure =>
         simp only [World.iterPos, k5.iter hit4 (by omega), hit]
         omega
     · have hnx : ∀ ty, (Instr.next (.pointer (some ⟨w2.heap.size, 0, none⟩)) true ty).run Try.prog wr = _ := fun ty => Lib.run_next_end_at wr w2.heap.size s pos ty hit hp
       have hc6 := Try.Builder_WriteString_k w1.heap.size w1.heap.size _ ⟨#[34]⟩ wr hI (by rw [Lib.byteCells_length]; have : (⟨#[34]⟩ : ByteArray).size = 1 := rfl; omega) (by omega)
       go_wp2_with (go_at_call 74; refine hc6.mono ?_)
       rintro e w6 ⟨rfl, h6, b6, k6⟩
       have h6' : Lib.IsBuilderF 69 5 w1.heap.size w1.heap.size (Lib.byteCells (acc ++ [34])) w6 := by rw [Lib.byteCells_append]; exact Or.inr h6
       have hs6 := b6.size
       have hc7 := Try.Builder_String_any_k w1.heap.size w1.heap.size (acc ++ [34]) w6 h6' (by omega)
       go_wp2_with (go_at_call 28; refine hc7.mono ?_)
       rintro e w7 ⟨rfl, _, b7, _⟩
       go_wp2
       go_ret2
       rw [qFrom_end s fuel pos hp, List.append_nil] at hacc
       subst hacc
       refine ⟨?_, (hbw.trans (below_down (by omega) b6)).trans (below_down (by omega) b7)⟩
       unfold qAns
       rw [hv]
       rfl
def quoteP (ts : List TV) : Option Ans := match ts with
  | [.fz (.str s)] => when (Nat.ble s.size 1099511627776) (some (if (signsL s.data.toList).isSome then ([.fz (.str (qB (qText s))), .fz (.int .i64 0)], []) else ([.fz (.str (qB [])), .fz (.int .i64 7)], [])))
  | _ => none
theorem quote_prim : ∀ ts r, quoteP ts = some r → CallOK Try.prog 77 ts r := by
 intro ts r e
 unfold quoteP at e
 split at e
 ·rename_i s
  obtain ⟨hg, e⟩ := when_some e
  have hs := Nat.le_of_ble_eq_true hg
  intro W S args Bs hlt hglob hT
  obtain ⟨x, rfl, rfl, R⟩ := repTs_one hT
  cases R
  refine (quote_walk s W hs (hglob.mono hlt fun _ _ => rfl)).mono fun ex W' hp => ?_
  obtain ⟨rfl, b⟩ := hp
  unfold qAns
  have two : ∀ (l : List UInt8) (n : Int), AnsOk W S [.fz (.str s)] [.string s] [] ([.fz (.str (qB l)), .fz (.int .i64 n)], []) (.tuple #[.string (qB l), .int .i64 n]) W' := fun l n => ans_two (fun t ht => by rcases List.mem_singleton.1 ht with rfl; exact ⟨_, rfl⟩) rfl hlt b (.str _) (.int _ _)
  cases hv : (signsL s.data.toList).isSome with
  | true => rw [hv] at e; cases e; exact two _ _
  | false => rw [hv] at e; cases e; exact two [] 7
 ·cases e
def A_quote : AFunc := ⟨1, [], .skip, some quoteP⟩
end
end Go.Ab
end
section
namespace Go.Ab
open Go.Proofs
noncomputable def tab1 : Nat → Option AFunc
 | 57 => some A_show_quoted
 | 75 => some A_num_Text
 | 77 => some A_quote
 | 86 => some A_repeat
 | f => tab0 f
noncomputable def Rt1 : Orc := RR tab1
theorem rt_call1 {f : Nat} (af : AFunc) {ts : List TV} {r : Ans} (hf : tab1 f = some af) (hl : (af.prim.isNone && (ts.length == af.np && Nat.blt af.np 1000)) = true) (k : Nat) (h : callL Rt1 k true af ts = some r) : Rt1 f ts = some r := RR_call af hf hl k h
theorem rt_prim1 {f : Nat} {af : AFunc} {p : List TV → Option Ans} {ts : List TV} {r : Ans} (hf : tab1 f = some af) (hp : af.prim = some p) (h : p ts = some r) : Rt1 f ts = some r := RR_prim hf hp h
set_option maxRecDepth 100000
theorem cf57 : compF Try.prog mds (livesBy Lv Tv 57) 57 Try.f57 = some A_show_quoted := by kernel_rfl
theorem cf75 : compF Try.prog mds (livesBy Lv Tv 75) 75 Try.f75 = some A_num_Text := by kernel_rfl
theorem tab1_ok : TabOK Try.prog mds (livesBy Lv Tv) tab1 := by
 intro f af h
 unfold tab1 at h
 split at h
 ·cases h; exact .inl ⟨Try.f57, by kernel_rfl, cf57⟩
 ·cases h; exact .inl ⟨Try.f75, by kernel_rfl, cf75⟩
 ·cases h; exact .inr ⟨Try.f77, _, rfl, by kernel_rfl, by kernel_rfl, by kernel_rfl, quote_prim⟩
 ·cases h; exact .inr ⟨Try.f86, _, rfl, by kernel_rfl, by kernel_rfl, by kernel_rfl, repeat_prim⟩
 ·exact tab0_ok f af h
theorem lift01 {f : Nat} {ts : List TV} {r : Ans} (h : Rt0 f ts = some r) : Rt1 f ts = some r := RR_sub (fun f af h => by
 unfold tab0 at h
 split at h <;> cases h <;> rfl) h
end Go.Ab
end
section
namespace Go.Ab
open Go.Proofs Go.RowKit
def WR (B b : Nat) (l : Value) (a most : Int) (full : Bool) (out : List UInt8) (w : World) : Prop :=
  ∃ cs, IsE 71 5 B b 2 cs (Lib.byteCells out) w ∧ cs.size = 6 ∧ cs[0]? = some l ∧ cs[1]? = some (.int .i64 a) ∧ cs[4]? = some (.int .i64 most) ∧ cs[5]? = some (.bool full)
theorem IsE.block {T e B b o : Nat} {cs : Array Value} {bs : List Value} {w : World} (h : IsE T e B b o cs bs w) : w.heap[b]? = some (.cells cs T (0, 0)) := h.elim (fun h => h.2.1) (fun h => h.2.1)
theorem IsE.le {T e B b o : Nat} {cs : Array Value} {bs : List Value} {w : World} (h : IsE T e B b o cs bs w) : B ≤ b := h.elim (fun h => h.1) (fun h => h.1)
theorem BldE.store {T e B b o : Nat} {cs : Array Value} {p : Value} {bs : List Value} {w : World} (h : BldE T e B b o cs p bs w) (i : Nat) (x : Value) (h1 : i ≠ o) (h2 : i ≠ o + 1) : BldE T e B b o (cs.setIfInBounds i x) p bs (w.setCell ⟨b, i, none⟩ x) := by
 obtain ⟨hB, hb, h0, v, hv, hown, hne, hnil⟩ := h
 exact ⟨hB, set_heap hb, by rw [Array.getElem?_setIfInBounds_ne h1]; exact h0, v, by rw [Array.getElem?_setIfInBounds_ne h2]; exact hv, own_set hown hne, hne, hnil⟩
section
variable {B b : Nat} {l : Value} {a most : Int} {full : Bool} {out : List UInt8} {w : World}
theorem WR.heap (h : WR B b l a most full out w) : B ≤ b ∧ b < w.heap.size := by
 obtain ⟨cs, h, _⟩ := h
 exact ⟨h.le, (Array.getElem?_eq_some_iff.1 h.block).1⟩
theorem WR.cell0 (h : WR B b l a most full out w) : w.cell? ⟨b, 0, none⟩ = some l := by
 obtain ⟨cs, h, _, h0, _⟩ := h
 rw [Lib.cell_of_heap h.block]; exact h0
theorem WR.cell1 (h : WR B b l a most full out w) : w.cell? ⟨b, 1, none⟩ = some (.int .i64 a) := by
 obtain ⟨cs, h, _, _, h0, _⟩ := h
 rw [Lib.cell_of_heap h.block]; exact h0
theorem WR.cell4 (h : WR B b l a most full out w) : w.cell? ⟨b, 4, none⟩ = some (.int .i64 most) := by
 obtain ⟨cs, h, _, _, _, h0, _⟩ := h
 rw [Lib.cell_of_heap h.block]; exact h0
theorem WR.cell5 (h : WR B b l a most full out w) : w.cell? ⟨b, 5, none⟩ = some (.bool full) := by
 obtain ⟨cs, h, _, _, _, _, h0⟩ := h
 rw [Lib.cell_of_heap h.block]; exact h0
theorem WR.frozen (h : WR B b l a most full out w) (j : Nat) : w.frozen? ⟨b, j, none⟩ = false := by
 obtain ⟨cs, h, _⟩ := h
 exact Lib.frozen_of_heap h.block j
theorem WR.setFull (h : WR B b l a most full out w) (x : Bool) : WR B b l a most x out (w.setCell ⟨b, 5, none⟩ (.bool x)) := by
 obtain ⟨cs, h, hs, h0, h1, h4, h5⟩ := h
 refine ⟨cs.setIfInBounds 5 (.bool x), h.imp (·.store 5 _ (by omega) (by omega)) (·.store 5 _ (by omega) (by omega)), by simpa using hs, ?_, ?_, ?_, by simp [hs]⟩
 all_goals (rw [Array.getElem?_setIfInBounds_ne (by omega)]; assumption)
theorem WR.kept {w' : World} (h : WR B b l a most full out w) (k : Below w.heap.size w w') : WR B b l a most full out w' := by
  obtain ⟨cs, h, r⟩ := h
  refine ⟨cs, ?_, r⟩
  have hb : w'.heap[b]? = w.heap[b]? := k.block b (Array.getElem?_eq_some_iff.1 h.block).1
  have one : ∀ p, BldE 71 5 B b 2 cs p (Lib.byteCells out) w → BldE 71 5 B b 2 cs p (Lib.byteCells out) w' := by
    rintro p ⟨hB, hb', h0, v, h1, ⟨hl, hown⟩, hne, hnil⟩
    refine ⟨hB, hb.trans hb', h0, v, h1, ⟨hl, ?_⟩, hne, hnil⟩
    rcases hown with h | ⟨g, cap, cur, fz, hv, hg, hc, rest⟩
    · exact .inl h
    · exact .inr ⟨g, cap, cur, fz, hv, hg, (k.block g (Array.getElem?_eq_some_iff.1 hc).1).trans hc, rest⟩
  exact h.imp (one _) (one _)
end
structure Wk (B b : Nat) (w w' : World) : Prop where
  below : Below B w w'
  kept : Lib.OthersKept 5 (some b) w w'
  size : w.heap.size ≤ w'.heap.size
theorem Wk.refl (B b : Nat) (w : World) : Wk B b w w := ⟨Below.refl _ _, .refl _ _ _, Nat.le_refl _⟩
theorem Wk.trans {B b : Nat} {a c d : World} (h : Wk B b a c) (k : Wk B b c d) : Wk B b a d := ⟨h.below.trans k.below, h.kept.trans k.kept, Nat.le_trans h.size k.size⟩
theorem Wk.of {B b : Nat} {w w' : World} (h : B ≤ w.heap.size) (k : Below w.heap.size w w') : Wk B b w w' :=
 ⟨below_down h k, fun i o hi _ _ => (k.block i (Array.getElem?_eq_some_iff.1 hi).1).trans hi, k.size⟩
theorem alloc_wk (w : World) (o : Obj) : Below w.heap.size w (w.alloc o) := (Below.refl _ _).alloc (Nat.le_refl _) _
theorem WR.string {B b : Nat} {l : Value} {a most : Int} {full : Bool} {out : List UInt8} {w : World} (h : WR B b l a most full out w) (s : ByteArray) (hs0 : s.size ≠ 0) (hlen : out.length + s.size ≤ 140737488355328) (hBw : B ≤ w.heap.size) :
   Calls Try.prog 74 #[.pointer (some ⟨b, 2, none⟩), .string s] w fun e w' => e = .returned (.tuple #[.int .i64 s.size, .nilIface]) ∧ WR B b l a most full (out ++ s.data.toList) w' ∧ Wk B b w w' := by
 obtain ⟨cs, hI, hs, h0, h1, h4, h5⟩ := h
 have lies : liesAt Try.prog Try.prog.depth 71 (6 / Try.prog.cellsOf 71) 2 69 1 = true := by kernel_rfl
 refine (E_WriteString_k Try.lays166 Try.Builder_Extra_105 (T := 71) s hs0 (by decide) (by rw [hs]; exact lies) hI (by rw [Lib.byteCells_length]; exact hlen) hBw).mono ?_
 rintro e w' ⟨rfl, cs', hsb, hB, hb, hsz, hk⟩
 exact ⟨rfl, ⟨cs', .inr (by rw [Lib.byteCells_append]; exact hB), hsb.1.trans hs, (hsb.2 0 (by omega) (by omega)).trans h0, (hsb.2 1 (by omega) (by omega)).trans h1, (hsb.2 4 (by omega) (by omega)).trans h4, (hsb.2 5 (by omega) (by omega)).trans h5⟩, ⟨hb, hk, hsz⟩⟩
theorem WR.len {B b : Nat} {l : Value} {a most : Int} {full : Bool} {out : List UInt8} {w : World} (h : WR B b l a most full out w) :
   Calls Try.prog 73 #[.pointer (some ⟨b, 2, none⟩)] w fun e w' => e = .returned (.int .i64 out.length) ∧ w' = w := by
 obtain ⟨cs, hI, _⟩ := h
 have := E_Len Try.lays170 (T := 71) hI
 rw [Lib.byteCells_length] at this
 exact this
def putS (most : Int) (full : Bool) : List ByteArray → List UInt8 → Option (List UInt8 × Bool)
  | [], out => some (out, full)
  | s :: r, out => if full = true then some (out, true) else if most - out.length < -9223372036854775808 ∨ 9223372036854775807 < most - out.length then none else if (s.size : Int) > most - out.length then some (out, true) else if s.size = 0 ∨ 140737488355328 < out.length + s.size then none else putS most full r (out ++ s.data.toList)
theorem wrap_id {x : Int} (h1 : -9223372036854775808 ≤ x) (h2 : x ≤ 9223372036854775807) : IntKind.wrap .i64 x = x := by
 simp [IntKind.wrap, IntKind.signed, IntKind.bits]
 omega
end Go.Ab
end
section
namespace Go.Ab
open Go.Proofs Go.RowKit
theorem WR.drewN {B b : Nat} {l : Value} {a most : Int} {full : Bool} {out : List UInt8} {w : World} (h : WR B b l a most full out w) (n : Nat) : WR B b l a most full out (w.drewN n) := h
theorem Wk.setFull {B b : Nat} {l : Value} {a most : Int} {full : Bool} {out : List UInt8} {w : World} (h : WR B b l a most full out w) (x : Bool) : Wk B b w (w.setCell ⟨b, 5, none⟩ (.bool x)) :=
 ⟨(Below.refl B w).setCell (p := ⟨b, 5, none⟩) h.heap.1 _, (Lib.OthersKept.refl _ _ w).setCell ⟨b, 5, none⟩ rfl _, by simp [World.setCell]⟩
theorem Wk.drewN {B b : Nat} {w w' : World} (h : Wk B b w w') (n : Nat) : Wk B b w (w'.drewN n) := ⟨h.below.trans ⟨rfl, rfl, rfl, Nat.le_refl _, fun _ _ => rfl⟩, h.kept, h.size⟩
set_option maxHeartbeats 4000000 in
set_option maxRecDepth 1000000 in
theorem put_walk {B b ls : Nat} {l : Value} {a most : Int} {full : Bool} {out : List UInt8} {w : World} {xs : List ByteArray} (h : WR B b l a most full out w) (hBw : B ≤ w.heap.size) (hx : w.heap[ls]? = some (.cells (xs.map Value.string).toArray 9 (0, 0))) (hb : ls ≠ b) (hlx : xs.length ≤ 1000) {r : List UInt8 × Bool} (hr : putS most full xs out = some r) :
   Calls Try.prog 55 #[.pointer (some ⟨b, 0, none⟩), .slice (some ⟨ls, 0, none⟩) xs.length xs.length] w fun e w' => e = .returned (.tuple #[]) ∧ WR B b l a most r.2 r.1 w' ∧ Wk B b w w' := by
 go_enter Try.func55, Try.ntmps55
 go_wp2
 go_loopw [8] (fun i wr => ∃ (k : Nat) (out' : List UInt8), k ≤ xs.length ∧ i = .int .i64 k ∧ WR B b l a most full out' wr ∧ Wk B b w wr ∧ putS most full (xs.drop k) out' = some r) (fun i _ => xs.length - (intOf i).toNat)
 case atStart => exact ⟨0, out, by omega, rfl, h, .refl _ _ _, hr⟩
 case round =>
   obtain ⟨k, out', hk, rfl, hW, hK, hP⟩ := hrel
   by_cases hkl : k < xs.length
   · have hcell : wr.cell? ⟨ls, k, none⟩ = some (.string xs[k]) := by
       have := hK.kept ls _ hx (by simpa using hb) (by intro c fz e; cases e)
       rw [Lib.cell_of_heap this]
       simp [hkl]
     rw [List.drop_eq_getElem_cons hkl] at hP
     simp only [putS] at hP
     have c5 := hW.cell5
     have f5 := hW.frozen 5
     have c4 := hW.cell4
     cases full with
     | true =>
       rw [if_pos rfl] at hP
       cases hP
       have hs := hW.setFull true
       clear hr
       go_wp2
       go_quiet (fail)
       go_wp2
       go_returns
       exact ⟨rfl, hs, (hK.drewN _).trans (Wk.setFull (WR.drewN hW _) true)⟩
     | false =>
       rw [if_neg (by simp)] at hP
       by_cases g1 : most - out'.length < -9223372036854775808 ∨ 9223372036854775807 < most - out'.length
       · rw [if_pos g1] at hP; cases hP
       rw [if_neg g1] at hP
       have hw : IntKind.wrap .i64 (most - out'.length) = most - out'.length := wrap_id (by omega) (by omega)
       by_cases g2 : (xs[k].size : Int) > most - out'.length
       · rw [if_pos g2] at hP
         cases hP
         go_wp2
         refine wp_region_quiet_lit (by kernel_rfl) (by kernel_rfl) ?_
         (repeat (quiet_step (fail)))
         refine wpQuiet_step (fun K hK => ?_)
         go_simp
         apply Exists.intro
         refine ⟨fun _ => ?_, hK _ ?_⟩
         · exact Calls.quiet_of_same (WR.len (WR.drewN hW _))
         clear hK K
         (repeat (quiet_step (fail)))
         refine wpQuiet_nil ?_
         rintro _ ⟨nq, rfl⟩
         go_wp2
         go_returns
         exact ⟨rfl, hW.setFull true, (hK.drewN _).trans (Wk.setFull (WR.drewN hW _) true)⟩
       · rw [if_neg g2] at hP
         by_cases g3 : xs[k].size = 0 ∨ 140737488355328 < out'.length + xs[k].size
         · rw [if_pos g3] at hP; cases hP
         rw [if_neg g3] at hP
         go_wp2
         refine wp_region_quiet_lit (by kernel_rfl) (by kernel_rfl) ?_
         (repeat (quiet_step (fail)))
         refine wpQuiet_step (fun K hK => ?_)
         go_simp
         apply Exists.intro
         refine ⟨fun _ => ?_, hK _ ?_⟩
         · exact Calls.quiet_of_same (WR.len (WR.drewN hW _))
         clear hK K
         (repeat (quiet_step (fail)))
         refine wpQuiet_nil ?_
         rintro _ ⟨nq, rfl⟩
         have hst := WR.string (WR.drewN hW nq) xs[k] (by omega) (by omega) (Nat.le_trans hBw hK.size)
         clear hw g1 g3
         have hg2 : decide ((xs[k].size : Int) > most - out'.length) = false := decide_eq_false (by omega)
         go_wp2_with (go_at_call 74; refine hst.mono ?_)
         rintro e w3 ⟨rfl, h3, k3⟩
         go_wp2
         exact ⟨⟨k + 1, _, by omega, by simp, h3, (hK.drewN _).trans k3, hP⟩, by simp [intOf]; omega⟩
   · go_wp2
     go_returns
     have : k = xs.length := by omega
     subst this
     rw [List.drop_length] at hP
     cases hP
     exact ⟨rfl, hW, hK⟩
end Go.Ab
end
section
namespace Go.Ab
noncomputable section
open Go.Proofs Go.RowKit
def q1 (f : Nat) (fs : List FV) : Option FV := match Rt1 f (fs.map .fz) with | some ([.fz e], []) => some e | _ => none
def qInt (f : Nat) (fs : List FV) : Option Int := match q1 f fs with | some (.int .i64 n) => some n | _ => none
def qBool (f : Nat) (fs : List FV) : Option Bool := match q1 f fs with | some (.bool b) => some b | _ => none
def qStr (f : Nat) (fs : List FV) : Option ByteArray := match q1 f fs with | some (.str s) => some s | _ => none
theorem q1_some {f : Nat} {fs : List FV} {e : FV} (h : q1 f fs = some e) : Rt1 f (fs.map .fz) = some ([.fz e], []) := by
 unfold q1 at h
 split at h
 ·rename_i e' he; cases h; exact he
 ·cases h
theorem qInt_some {f : Nat} {fs : List FV} {n : Int} (h : qInt f fs = some n) : Rt1 f (fs.map .fz) = some ([.fz (.int .i64 n)], []) := by
 unfold qInt at h
 split at h
 ·rename_i e' he; cases h; exact q1_some he
 ·cases h
theorem qBool_some {f : Nat} {fs : List FV} {n : Bool} (h : qBool f fs = some n) : Rt1 f (fs.map .fz) = some ([.fz (.bool n)], []) := by
 unfold qBool at h
 split at h
 ·rename_i e' he; cases h; exact q1_some he
 ·cases h
theorem qStr_some {f : Nat} {fs : List FV} {n : ByteArray} (h : qStr f fs = some n) : Rt1 f (fs.map .fz) = some ([.fz (.str n)], []) := by
 unfold qStr at h
 split at h
 ·rename_i e' he; cases h; exact q1_some he
 ·cases h
abbrev ShS := List UInt8 × Bool
def putT (most : Int) (xs : List ByteArray) (st : ShS) : Option ShS := putS most st.2 xs st.1
def isNode : FV → Bool
 | .ag [.int .i64 _, .int .i64 _, .int .i64 _, .int .i64 _, .int .i64 _, .str _, .sl _, .sl _] => true
 | _ => false
theorem isNode_eq {x : FV} (h : isNode x = true) : ∃ lb dp kd co sc s its ks, x = .ag [.int .i64 lb, .int .i64 dp, .int .i64 kd, .int .i64 co, .int .i64 sc, .str s, .sl its, .sl ks] := by
 unfold isNode at h
 split at h
 ·exact ⟨_, _, _, _, _, _, _, _, rfl⟩
 ·cases h
def itemsF (most : Int) (nd : FV → Int → ShS → Option ShS) (kd : Int) (ks : List FV) (up : Int) : Nat → List FV → ShS → Option ShS
  | _, [], st => some st
  | i, x :: r, st => if isNode x = false then none else if st.2 = true then some st else
      (if 0 < i then putT most [⟨#[44]⟩] st else some st).bind fun st1 =>
      (if kd = 6 ∧ i < ks.length then (match ks[i]? with
        | some (.str k) => (qStr 87 [.str k]).bind fun e => (qStr 57 [.str e]).bind fun q => putT most [q, ⟨#[58]⟩] st1
        | _ => none) else some st1).bind fun st2 =>
      (nd x up st2).bind fun st3 => itemsF most nd kd ks up (i + 1) r st3
def bodyF (most : Int) (nd : FV → Int → ShS → Option ShS) (x : FV) (up : Int) (st : ShS) : Option ShS := match x with
  | .ag [.int .i64 _, .int .i64 _, .int .i64 kd, .int .i64 co, .int .i64 sc, .str s, .sl its, .sl ks] =>
    if 140737488355328 < its.length ∨ 140737488355328 < ks.length then none else
    if kd = 0 then putT most [⟨#[110, 117, 108, 108]⟩] st
    else if kd = 1 then putT most [⟨#[102, 97, 108, 115, 101]⟩] st
    else if kd = 2 then putT most [⟨#[116, 114, 117, 101]⟩] st
    else if kd = 3 then (qStr 75 [.ag [.int .i64 co, .int .i64 sc]]).bind fun t => putT most [t] st
    else if kd = 4 then (qStr 57 [.str s]).bind fun t => putT most [t] st
    else if kd = 7 then (qStr 57 [.str s]).bind fun t => putT most [⟨#[123, 34, 35, 33, 34, 58]⟩, t, ⟨#[125]⟩] st
    else if kd = 5 then (putT most [⟨#[91]⟩] st).bind fun st => (itemsF most nd kd ks up 0 its st).bind fun st => putT most [⟨#[93]⟩] st
    else if kd = 6 then (putT most [⟨#[123]⟩] st).bind fun st => (itemsF most nd kd ks up 0 its st).bind fun st => putT most [⟨#[125]⟩] st
    else some st
  | _ => none
def nodeF (L : FV) (a most : Int) (nd : FV → Int → ShS → Option ShS) (x : FV) (up : Int) (st : ShS) : Option ShS := match x with
  | .ag [.int .i64 lb, .int .i64 _, .int .i64 _, .int .i64 _, .int .i64 _, .str _, .sl _, .sl _] =>
    (qInt 53 [L, .int .i64 up, .int .i64 lb]).bind fun j => (qBool 54 [L, .int .i64 j, .int .i64 a]).bind fun le =>
      if le = false then putT most [⟨#[123, 34, 35, 34, 58, 110, 117, 108, 108, 125]⟩] st
      else if j = up then bodyF most nd x j st
      else (qStr 58 [L, .int .i64 j]).bind fun t => (qStr 57 [.str t]).bind fun q => (putT most [⟨#[123, 34, 35, 34, 58]⟩, q, ⟨#[44, 34, 61, 34, 58]⟩] st).bind fun st => (bodyF most nd x j st).bind fun st => putT most [⟨#[125]⟩] st
  | _ => none
def nodeS (L : FV) (a most : Int) : Nat → FV → Int → ShS → Option ShS
 | 0 => fun _ _ _ => none
 | n + 1 => nodeF L a most (nodeS L a most n)
def AP (v : Value) (w : World) (e : Ending) (w' : World) : Prop := e = .returned v ∧ Below w.heap.size w w'
structure Ctx (W0 : World) (S : Nat → Prop) (b : Nat) (L : FV) (lv : Value) : Prop where
  lt : ∀ k, S k → k < W0.heap.size
  glob : GlobOK Try.prog W0 (fun b => b < W0.heap.size)
  rep : Rep W0 S L lv
  le : W0.heap.size ≤ b
structure Wst (W0 : World) (b : Nat) (lv : Value) (a most : Int) (st : ShS) (w : World) : Prop where
  wr : WR W0.heap.size b lv a most st.2 st.1 w
  below : Below W0.heap.size W0 w
def CP (W0 : World) (b : Nat) (lv : Value) (a most : Int) (st : ShS) (w : World) (e : Ending) (w' : World) : Prop := e = .returned (.tuple #[]) ∧ Wst W0 b lv a most st w' ∧ Wk W0.heap.size b w w'
section
variable {W0 : World} {S : Nat → Prop} {b : Nat} {L : FV} {lv : Value} {a most : Int} {st : ShS} {w w' : World}
theorem Wst.size (h : Wst W0 b lv a most st w) : W0.heap.size ≤ w.heap.size := h.below.size
theorem Wst.kept (h : Wst W0 b lv a most st w) (k : Below w.heap.size w w') : Wst W0 b lv a most st w' := ⟨h.wr.kept k, h.below.trans (below_down h.size k)⟩
theorem Ctx.rep_in (C : Ctx W0 S b L lv) (h : Below W0.heap.size W0 w) {e : FV} {v : Value} (r : Rep W0 S e v) : Rep w (fun k => k < w.heap.size) e v :=
 r.mono (fun k hk => Nat.lt_of_lt_of_le (C.lt k hk) h.size) fun k hk => h.block k (C.lt k hk)
theorem Ctx.globs (C : Ctx W0 S b L lv) (h : Below W0.heap.size W0 w) : GlobOK Try.prog w (fun k => k < w.heap.size) := C.glob.mono (fun _ hk => Nat.lt_of_lt_of_le hk h.size) fun i hi => h.block i hi
theorem Ctx.ask (C : Ctx W0 S b L lv) (h : Below W0.heap.size W0 w) {f : Nat} {fs : List FV} {args : Array Value} {e : FV} (hq : Rt1 f (fs.map .fz) = some ([.fz e], [])) (hA : RepArgs w fs args.toList) :
   Calls Try.prog f args w fun ex W' => ∃ v, ex = .returned v ∧ Below w.heap.size w W' ∧ ∃ S', Rep W' S' e v := rr_calls tab1_ok hq (C.globs h) hA
theorem Ctx.askInt (C : Ctx W0 S b L lv) (h : Below W0.heap.size W0 w) {f : Nat} {fs : List FV} {args : Array Value} {n : Int} (hq : qInt f fs = some n) (hA : RepArgs w fs args.toList) :
   Calls Try.prog f args w (AP (.int .i64 n) w) := by
 refine (C.ask h (qInt_some hq) hA).mono ?_
 rintro ex W' ⟨v, rfl, hb, S', R⟩
 cases R
 exact ⟨rfl, hb⟩
theorem Ctx.askBool (C : Ctx W0 S b L lv) (h : Below W0.heap.size W0 w) {f : Nat} {fs : List FV} {args : Array Value} {n : Bool} (hq : qBool f fs = some n) (hA : RepArgs w fs args.toList) :
   Calls Try.prog f args w (AP (.bool n) w) := by
 refine (C.ask h (qBool_some hq) hA).mono ?_
 rintro ex W' ⟨v, rfl, hb, S', R⟩
 cases R
 exact ⟨rfl, hb⟩
theorem Ctx.askStr (C : Ctx W0 S b L lv) (h : Below W0.heap.size W0 w) {f : Nat} {fs : List FV} {args : Array Value} {n : ByteArray} (hq : qStr f fs = some n) (hA : RepArgs w fs args.toList) :
   Calls Try.prog f args w (AP (.string n) w) := by
 refine (C.ask h (qStr_some hq) hA).mono ?_
 rintro ex W' ⟨v, rfl, hb, S', R⟩
 cases R
 exact ⟨rfl, hb⟩
theorem Wst.put (h : Wst W0 b lv a most st w) {ls : Nat} {xs : List ByteArray} (hx : w.heap[ls]? = some (.cells (xs.map Value.string).toArray 9 (0, 0))) (hb : ls ≠ b) (hlx : xs.length ≤ 1000) {r : ShS} (hr : putT most xs st = some r) :
    Calls Try.prog 55 #[.pointer (some ⟨b, 0, none⟩), .slice (some ⟨ls, 0, none⟩) xs.length xs.length] w (CP W0 b lv a most r w) :=
  (put_walk h.wr h.size hx hb hlx hr).mono fun e w' ⟨h1, h2, h3⟩ => ⟨h1, ⟨h2, h.below.trans h3.below⟩, h3⟩
end
def NDW (W0 : World) (S : Nat → Prop) (b : Nat) (lv : Value) (a most : Int) (nd : FV → Int → ShS → Option ShS) : Prop :=
  ∀ (x : FV) (up : Int) (st st' : ShS) (v : Value) (w : World), nd x up st = some st' → Rep W0 S x v → Wst W0 b lv a most st w →
    Calls Try.prog 27 #[.pointer (some ⟨b, 0, none⟩), v, .int .i64 up] w (CP W0 b lv a most st' w)
end
end Go.Ab
end
section
namespace Go.Ab
open Go.Proofs Go.RowKit
theorem node_rep {W : World} {S : Nat → Prop} {lb dp kd co sc : Int} {s : ByteArray} {its ks : List FV} {v : Value} (h : Rep W S (.ag [.int .i64 lb, .int .i64 dp, .int .i64 kd, .int .i64 co, .int .i64 sc, .str s, .sl its, .sl ks]) v) :
   ∃ iv kv, v = .agg #[.int .i64 lb, .int .i64 dp, .int .i64 kd, .int .i64 co, .int .i64 sc, .string s, iv, kv] ∧ Rep W S (.sl its) iv ∧ Rep W S (.sl ks) kv ∧ iv.oneCell' = true ∧ kv.oneCell' = true := by
 cases h with
 | ag cs vs hl h1 h =>
   obtain ⟨l⟩ := vs
   match l, hl with
   | [v0, v1, v2, v3, v4, v5, v6, v7], _ =>
     have e0 := h 0 _ v0 rfl rfl
     have e1 := h 1 _ v1 rfl rfl
     have e2 := h 2 _ v2 rfl rfl
     have e3 := h 3 _ v3 rfl rfl
     have e4 := h 4 _ v4 rfl rfl
     have e5 := h 5 _ v5 rfl rfl
     have e6 := h 6 _ v6 rfl rfl
     have e7 := h 7 _ v7 rfl rfl
     cases e0; cases e1; cases e2; cases e3; cases e4; cases e5
     exact ⟨v6, v7, rfl, e6, e7, h1 6 v6 rfl, h1 7 v7 rfl⟩
theorem alloc_at (w : World) (o : Obj) : (w.alloc o).heap[w.heap.size]? = some o := heap_alloc_new w o
section
variable {W0 : World} {S : Nat → Prop} {b : Nat} {L : FV} {lv : Value} {a most : Int} {st : ShS} {w : World}
theorem Wst.alloc (h : Wst W0 b lv a most st w) (o : Obj) : Wst W0 b lv a most st (w.alloc o) := h.kept (alloc_wk w o)
theorem Wst.wkAlloc (h : Wst W0 b lv a most st w) (o : Obj) : Wk W0.heap.size b w (w.alloc o) := Wk.of h.size (alloc_wk w o)
theorem Wst.put1 (h : Wst W0 b lv a most st w) (x : ByteArray) {r : ShS} (hr : putT most [x] st = some r) :
    Calls Try.prog 55 #[.pointer (some ⟨b, 0, none⟩), .slice (some ⟨w.heap.size, 0, none⟩) 1 1] (w.alloc (.cells #[.string x] 9)) (CP W0 b lv a most r w) :=
  ((h.alloc _).put (ls := w.heap.size) (xs := [x]) (alloc_at w _) (Nat.ne_of_gt h.wr.heap.2) (by simp only [List.length_cons, List.length_nil]; omega) hr).mono fun e w' ⟨h1, h2, h3⟩ => ⟨h1, h2, (h.wkAlloc _).trans h3⟩
theorem Wst.put3 (h : Wst W0 b lv a most st w) (x y z : ByteArray) {r : ShS} (hr : putT most [x, y, z] st = some r) :
   Calls Try.prog 55 #[.pointer (some ⟨b, 0, none⟩), .slice (some ⟨w.heap.size, 0, none⟩) 3 3] (w.alloc (.cells #[.string x, .string y, .string z] 9)) (CP W0 b lv a most r w) :=
 ((h.alloc _).put (ls := w.heap.size) (xs := [x, y, z]) (alloc_at w _) (Nat.ne_of_gt h.wr.heap.2) (by simp only [List.length_cons, List.length_nil]; omega) hr).mono fun e w' ⟨h1, h2, h3⟩ => ⟨h1, h2, (h.wkAlloc _).trans h3⟩
theorem Wst.put2 (h : Wst W0 b lv a most st w) (x y : ByteArray) {r : ShS} (hr : putT most [x, y] st = some r) :
   Calls Try.prog 55 #[.pointer (some ⟨b, 0, none⟩), .slice (some ⟨w.heap.size, 0, none⟩) 2 2] (w.alloc (.cells #[.string x, .string y] 9)) (CP W0 b lv a most r w) :=
 ((h.alloc _).put (ls := w.heap.size) (xs := [x, y]) (alloc_at w _) (Nat.ne_of_gt h.wr.heap.2) (by simp only [List.length_cons, List.length_nil]; omega) hr).mono fun e w' ⟨h1, h2, h3⟩ => ⟨h1, h2, (h.wkAlloc _).trans h3⟩
end
theorem rep_num (W : World) (S : Nat → Prop) (x y : Int) : Rep W S (.ag [.int .i64 x, .int .i64 y]) (.agg #[.int .i64 x, .int .i64 y]) :=
 .ag _ _ rfl (fun j v h => by
  match j, h with
  | 0, h => cases h; rfl
  | 1, h => cases h; rfl
  | j + 2, h => simp at h) fun j e v h h' => by
  match j, h, h' with
  | 0, h, h' => cases h; cases h'; exact .int _ _
  | 1, h, h' => cases h; cases h'; exact .int _ _
  | j + 2, h, _ => simp at h
theorem cells8 {w : World} {N : Nat} {v0 v1 v2 v3 v4 v5 v6 v7 : Value} {T : TypeId} {fz : Nat × Nat} (h : w.heap[N]? = some (.cells #[v0, v1, v2, v3, v4, v5, v6, v7] T fz)) :
   w.cell? ⟨N, 0, none⟩ = some v0 ∧ w.cell? ⟨N, 1, none⟩ = some v1 ∧ w.cell? ⟨N, 2, none⟩ = some v2 ∧ w.cell? ⟨N, 3, none⟩ = some v3 ∧ w.cell? ⟨N, 4, none⟩ = some v4 ∧ w.cell? ⟨N, 5, none⟩ = some v5 ∧ w.cell? ⟨N, 6, none⟩ = some v6 ∧ w.cell? ⟨N, 7, none⟩ = some v7 := by
 refine ⟨?_, ?_, ?_, ?_, ?_, ?_, ?_, ?_⟩ <;> (rw [Lib.cell_of_heap h]; rfl)
def IT (W0 : World) (S : Nat → Prop) (b : Nat) (lv : Value) (a most : Int) (nd : FV → Int → ShS → Option ShS) : Prop :=
  ∀ (lb dp kd co sc up : Int) (s : ByteArray) (its ks : List FV) (st st' : ShS) (v : Value) (w : World), itemsF most nd kd ks up 0 its st = some st' → its.length ≤ 140737488355328 → ks.length ≤ 140737488355328 →
    Rep W0 S (.ag [.int .i64 lb, .int .i64 dp, .int .i64 kd, .int .i64 co, .int .i64 sc, .str s, .sl its, .sl ks]) v → Wst W0 b lv a most st w →
    Calls Try.prog 76 #[.pointer (some ⟨b, 0, none⟩), v, .int .i64 up] w (CP W0 b lv a most st' w)
set_option maxHeartbeats 4000000 in
set_option maxRecDepth 1000000 in
theorem body_walk {W0 : World} {S : Nat → Prop} {b : Nat} {L : FV} {lv : Value} (C : Ctx W0 S b L lv) {a most : Int} {nd : FV → Int → ShS → Option ShS} (hI : IT W0 S b lv a most nd)
   (x : FV) (up : Int) (st st' : ShS) (v : Value) (w : World) (h : bodyF most nd x up st = some st') (R : Rep W0 S x v) (hw : Wst W0 b lv a most st w) :
   Calls Try.prog 56 #[.pointer (some ⟨b, 0, none⟩), v, .int .i64 up] w (CP W0 b lv a most st' w) := by
 unfold bodyF at h
 split at h
 · rename_i lb dp kd co sc s its ks
   split at h
   · cases h
   rename_i hl
   have R0 := R
   obtain ⟨iv, kv, rfl, Ri, Rk, o1, o2⟩ := node_rep R
   have hz : (w.alloc (.cells #[.int .i64 lb, .int .i64 dp, .int .i64 kd, .int .i64 co, .int .i64 sc, .string s, iv, kv] 27)).heap.size = w.heap.size + 1 := by simp
   have hN := hw.alloc (.cells #[.int .i64 lb, .int .i64 dp, .int .i64 kd, .int .i64 co, .int .i64 sc, .string s, iv, kv] 27)
   have kN := hw.wkAlloc (.cells #[.int .i64 lb, .int .i64 dp, .int .i64 kd, .int .i64 co, .int .i64 sc, .string s, iv, kv] 27)
   have eN : (w.alloc (.cells #[.int .i64 lb, .int .i64 dp, .int .i64 kd, .int .i64 co, .int .i64 sc, .string s, iv, kv] 27)).heap[w.heap.size]? = some (.cells #[.int .i64 lb, .int .i64 dp, .int .i64 kd, .int .i64 co, .int .i64 sc, .string s, iv, kv] 27 (0, 0)) := heap_alloc_new w _
   have hNb : some w.heap.size ≠ some b := fun e => by
     have := hw.wr.heap.2
     have := Option.some.inj e
     omega
   by_cases g0 : kd = 0
   · rw [if_pos g0] at h
     subst g0
     have hp := hN.put1 _ h
     rw [hz] at hp
     go_enter Try.func56, Try.ntmps56
     go_wp2_with (go_at_call 55; refine hp.mono ?_)
     rintro e w2 ⟨rfl, h2, k2⟩
     go_wp2
     go_returns
     exact ⟨rfl, h2, kN.trans k2⟩
   rw [if_neg g0] at h
   by_cases g1 : kd = 1
   · rw [if_pos g1] at h
     subst g1
     have hp := hN.put1 _ h
     rw [hz] at hp
     go_enter Try.func56, Try.ntmps56
     go_wp2_with (go_at_call 55; refine hp.mono ?_)
     rintro e w2 ⟨rfl, h2, k2⟩
     go_wp2
     go_returns
     exact ⟨rfl, h2, kN.trans k2⟩
   rw [if_neg g1] at h
   by_cases g2 : kd = 2
   · rw [if_pos g2] at h
     subst g2
     have hp := hN.put1 _ h
     rw [hz] at hp
     go_enter Try.func56, Try.ntmps56
     go_wp2_with (go_at_call 55; refine hp.mono ?_)
     rintro e w2 ⟨rfl, h2, k2⟩
     go_wp2
     go_returns
     exact ⟨rfl, h2, kN.trans k2⟩
   rw [if_neg g2] at h
   by_cases g3 : kd = 3
   · rw [if_pos g3] at h
     subst g3
     obtain ⟨t, hq, h⟩ := Option.bind_eq_some_iff.1 h
     have hc := C.askStr hN.below (args := #[.agg #[.int .i64 co, .int .i64 sc]]) hq ⟨rep_num _ _ _ _, trivial⟩
     go_enter Try.func56, Try.ntmps56
     go_wp2_with (go_at_call 75; refine hc.mono ?_)
     rintro e w1 ⟨rfl, b1⟩
     have h1 := hN.kept b1
     have k1 : Wk W0.heap.size b _ w1 := Wk.of hN.size b1
     have hp := h1.put1 _ h
     clear hc
     go_wp2_with (go_at_call 55; refine hp.mono ?_)
     rintro e w2 ⟨rfl, h2, k2⟩
     go_wp2
     go_returns
     exact ⟨rfl, h2, (kN.trans k1).trans k2⟩
   rw [if_neg g3] at h
   by_cases g4 : kd = 4
   · rw [if_pos g4] at h
     subst g4
     obtain ⟨t, hq, h⟩ := Option.bind_eq_some_iff.1 h
     have hc := C.askStr hN.below (args := #[.string s]) hq ⟨.str s, trivial⟩
     go_enter Try.func56, Try.ntmps56
     go_wp2_with (go_at_call 57; refine hc.mono ?_)
     rintro e w1 ⟨rfl, b1⟩
     have h1 := hN.kept b1
     have k1 : Wk W0.heap.size b _ w1 := Wk.of hN.size b1
     have hp := h1.put1 _ h
     clear hc
     go_wp2_with (go_at_call 55; refine hp.mono ?_)
     rintro e w2 ⟨rfl, h2, k2⟩
     go_wp2
     go_returns
     exact ⟨rfl, h2, (kN.trans k1).trans k2⟩
   rw [if_neg g4] at h
   by_cases g7 : kd = 7
   · rw [if_pos g7] at h
     subst g7
     obtain ⟨t, hq, h⟩ := Option.bind_eq_some_iff.1 h
     have hc := C.askStr hN.below (args := #[.string s]) hq ⟨.str s, trivial⟩
     go_enter Try.func56, Try.ntmps56
     go_wp2_with (go_at_call 57; refine hc.mono ?_)
     rintro e w1 ⟨rfl, b1⟩
     have h1 := hN.kept b1
     have k1 : Wk W0.heap.size b _ w1 := Wk.of hN.size b1
     have hp := h1.put3 _ _ _ h
     clear hc
     go_wp2_with (go_at_call 55; refine hp.mono ?_)
     rintro e w2 ⟨rfl, h2, k2⟩
     go_wp2
     go_returns
     exact ⟨rfl, h2, (kN.trans k1).trans k2⟩
   rw [if_neg g7] at h
   by_cases g5 : kd = 5
   · rw [if_pos g5] at h
     subst g5
     obtain ⟨s1, hp1, h⟩ := Option.bind_eq_some_iff.1 h
     obtain ⟨s2, hit, h⟩ := Option.bind_eq_some_iff.1 h
     have hp := hN.put1 _ hp1
     rw [hz] at hp
     go_enter Try.func56, Try.ntmps56
     go_wp2_with (go_at_call 55; refine hp.mono ?_)
     rintro e w2 ⟨rfl, h2, k2⟩
     have e2 := k2.kept _ _ eN hNb (by intro c fz e; cases e)
     obtain ⟨c0, c1, c2, c3, c4, c5, c6, c7⟩ := cells8 e2
     have hc := hI lb dp 5 co sc up s its ks s1 s2 _ w2 hit (by omega) (by omega) R0 h2
     clear hp
     go_wp2_with (go_at_call 76; refine hc.mono ?_)
     rintro e w3 ⟨rfl, h3, k3⟩
     have hp := h3.put1 _ h
     clear hc c0 c1 c2 c3 c4 c5 c6 c7
     go_wp2_with (go_at_call 55; refine hp.mono ?_)
     rintro e w4 ⟨rfl, h4, k4⟩
     go_wp2
     go_returns
     exact ⟨rfl, h4, ((kN.trans k2).trans k3).trans k4⟩
   rw [if_neg g5] at h
   by_cases g6 : kd = 6
   · rw [if_pos g6] at h
     subst g6
     obtain ⟨s1, hp1, h⟩ := Option.bind_eq_some_iff.1 h
     obtain ⟨s2, hit, h⟩ := Option.bind_eq_some_iff.1 h
     have hp := hN.put1 _ hp1
     rw [hz] at hp
     go_enter Try.func56, Try.ntmps56
     go_wp2_with (go_at_call 55; refine hp.mono ?_)
     rintro e w2 ⟨rfl, h2, k2⟩
     have e2 := k2.kept _ _ eN hNb (by intro c fz e; cases e)
     obtain ⟨c0, c1, c2, c3, c4, c5, c6, c7⟩ := cells8 e2
     have hc := hI lb dp 6 co sc up s its ks s1 s2 _ w2 hit (by omega) (by omega) R0 h2
     clear hp
     go_wp2_with (go_at_call 76; refine hc.mono ?_)
     rintro e w3 ⟨rfl, h3, k3⟩
     have hp := h3.put1 _ h
     clear hc c0 c1 c2 c3 c4 c5 c6 c7
     go_wp2_with (go_at_call 55; refine hp.mono ?_)
     rintro e w4 ⟨rfl, h4, k4⟩
     go_wp2
     go_returns
     exact ⟨rfl, h4, ((kN.trans k2).trans k3).trans k4⟩
   rw [if_neg g6] at h
   cases h
   go_enter Try.func56, Try.ntmps56
   go_wp2
   go_returns
   exact ⟨rfl, hN, kN⟩
 · cases h
end Go.Ab
end
section
namespace Go.Ab
open Go.Proofs Go.RowKit
theorem items_rep {W : World} {S : Nat → Prop} {its : List FV} {iv : Value} (h : Rep W S (.sl its) iv) : ∃ ad cap, iv = .slice ad its.length cap ∧ its.length ≤ cap ∧ ∀ k x, its[k]? = some x → x.isAg 8 = true → ∃ (B off : Nat) (g : Nat → Value), ad = some ⟨B, off, none⟩ ∧ S B ∧ (∀ j, j < 8 → W.cell? ⟨B, off + k * 8 + j, none⟩ = some (g j)) ∧ (∀ j, j < 8 → (g j).oneCell' = true) ∧ Rep W S x (.agg #[g 0, g 1, g 2, g 3, g 4, g 5, g 6, g 7]) := by
  cases h with
  | sl0 a cap => exact ⟨a, cap, rfl, Nat.zero_le _, fun k x h => by simp at h⟩
  | sl _ B off cap sz agg g hS hcap hf hc h1 hh =>
    refine ⟨some ⟨B, off, none⟩, cap, rfl, hcap, fun k x hk hx => ?_⟩
    have hkl : k < its.length := (List.getElem?_eq_some_iff.1 hk).1
    have hfx := hf x (List.mem_of_getElem? hk)
    obtain ⟨cs, rfl⟩ : ∃ cs, x = .ag cs := by cases x <;> first | (cases hx; done) | exact ⟨_, rfl⟩
    have h8 : cs.length = 8 := by simpa [FV.isAg] using hx
    obtain ⟨rfl, rfl⟩ : agg = true ∧ sz = 8 := by
      cases agg with
      | true => simp only [FV.fits, FV.isAg, beq_iff_eq] at hfx; exact ⟨rfl, by omega⟩
      | false => simp [FV.fits] at hfx
    have hb : ∀ j, j < 8 → k * 8 + j < its.length * 8 := fun j hj => by omega
    refine ⟨B, off, fun j => g (k * 8 + j), rfl, hS, fun j hj => by rw [Nat.add_assoc]; exact hc _ (hb j hj), fun j hj => h1 _ (hb j hj), ?_⟩
    refine .ag _ _ (by simp [h8]) (fun j v hv => ?_) fun j e v he hv => ?_
    · have hj : j < 8 := (Array.getElem?_eq_some_iff.1 hv).1
      have : v = g (k * 8 + j) := by
        match j, hj, hv with
        | 0, _, hv => exact (Option.some.inj hv).symm
        | 1, _, hv => exact (Option.some.inj hv).symm
        | 2, _, hv => exact (Option.some.inj hv).symm
        | 3, _, hv => exact (Option.some.inj hv).symm
        | 4, _, hv => exact (Option.some.inj hv).symm
        | 5, _, hv => exact (Option.some.inj hv).symm
        | 6, _, hv => exact (Option.some.inj hv).symm
        | 7, _, hv => exact (Option.some.inj hv).symm
      rw [this]
      exact h1 _ (hb j hj)
    · have hj : j < 8 := (Array.getElem?_eq_some_iff.1 hv).1
      have : v = g (k * 8 + j) := by
        match j, hj, hv with
        | 0, _, hv => exact (Option.some.inj hv).symm
        | 1, _, hv => exact (Option.some.inj hv).symm
        | 2, _, hv => exact (Option.some.inj hv).symm
        | 3, _, hv => exact (Option.some.inj hv).symm
        | 4, _, hv => exact (Option.some.inj hv).symm
        | 5, _, hv => exact (Option.some.inj hv).symm
        | 6, _, hv => exact (Option.some.inj hv).symm
        | 7, _, hv => exact (Option.some.inj hv).symm
      rw [this]
      exact hh k _ j e hk he
theorem keys_rep {W : World} {S : Nat → Prop} {ks : List FV} {kv : Value} (h : Rep W S (.sl ks) kv) : ∃ ad cap, kv = .slice ad ks.length cap ∧ ks.length ≤ cap ∧ ∀ k s, ks[k]? = some (.str s) → ∃ B off, ad = some ⟨B, off, none⟩ ∧ S B ∧ W.cell? ⟨B, off + k, none⟩ = some (.string s) := by
  cases h with
  | sl0 a cap => exact ⟨a, cap, rfl, Nat.zero_le _, fun k x h => by simp at h⟩
  | sl _ B off cap sz agg g hS hcap hf hc h1 hh =>
    refine ⟨some ⟨B, off, none⟩, cap, rfl, hcap, fun k s hk => ?_⟩
    have hkl : k < ks.length := (List.getElem?_eq_some_iff.1 hk).1
    have hfx := hf _ (List.mem_of_getElem? hk)
    obtain ⟨rfl, rfl⟩ : agg = false ∧ sz = 1 := by
      cases agg with
      | true => simp [FV.fits, FV.isAg] at hfx
      | false => simp [FV.fits] at hfx; exact ⟨rfl, hfx⟩
    have hR := hh k _ 0 (.str s) hk rfl
    have hcc := hc k (by omega)
    refine ⟨B, off, rfl, hS, ?_⟩
    rw [hcc]
    rw [Nat.mul_one, Nat.add_zero] at hR
    generalize g k = u at hR
    cases hR
    rfl
theorem cell_kept {W0 w : World} {S : Nat → Prop} (hS : ∀ k, S k → k < W0.heap.size) (h : Below W0.heap.size W0 w) {B o : Nat} (hB : S B) {v : Value} (hc : W0.cell? ⟨B, o, none⟩ = some v) : w.cell? ⟨B, o, none⟩ = some v := (cell_same (h.block B (hS B hB))).trans hc
set_option maxHeartbeats 4000000 in
set_option maxRecDepth 1000000 in
theorem items_walk {W0 : World} {S : Nat → Prop} {b : Nat} {L : FV} {lv : Value} (C : Ctx W0 S b L lv) {a most : Int} {nd : FV → Int → ShS → Option ShS} (hN : NDW W0 S b lv a most nd) : IT W0 S b lv a most nd := by
 intro lb dp kd co sc up s its ks st st' v w h hl1 hl2 R hw
 obtain ⟨iv, kv, rfl, Ri, Rk, o1, o2⟩ := node_rep R
 obtain ⟨ia, ic, rfl, hic, hi⟩ := items_rep Ri
 obtain ⟨ka, kc, rfl, hkc, hk⟩ := keys_rep Rk
 have hNb : some w.heap.size ≠ some b := fun e => by
  have := hw.wr.heap.2
  have := Option.some.inj e
  omega
 have eN : (w.alloc (.cells #[.int .i64 lb, .int .i64 dp, .int .i64 kd, .int .i64 co, .int .i64 sc, .string s, .slice ia its.length ic, .slice ka ks.length kc] 27)).heap[w.heap.size]? = some (.cells #[.int .i64 lb, .int .i64 dp, .int .i64 kd, .int .i64 co, .int .i64 sc, .string s, .slice ia its.length ic, .slice ka ks.length kc] 27 (0, 0)) := heap_alloc_new w _
 have hwN := hw.alloc (.cells #[.int .i64 lb, .int .i64 dp, .int .i64 kd, .int .i64 co, .int .i64 sc, .string s, .slice ia its.length ic, .slice ka ks.length kc] 27)
 have kN := hw.wkAlloc (.cells #[.int .i64 lb, .int .i64 dp, .int .i64 kd, .int .i64 co, .int .i64 sc, .string s, .slice ia its.length ic, .slice ka ks.length kc] 27)
 go_enter Try.func76, Try.ntmps76
 go_wp2
 generalize (w.alloc (.cells #[.int .i64 lb, .int .i64 dp, .int .i64 kd, .int .i64 co, .int .i64 sc, .string s, .slice ia its.length ic, .slice ka ks.length kc] 27)) = wN at eN hwN kN ⊢
 go_loopw [11] (fun i wr => ∃ (k : Nat) (st1 : ShS), k ≤ its.length ∧ i = .int .i64 k ∧ Wst W0 b lv a most st1 wr ∧ Wk W0.heap.size b wN wr ∧ itemsF most nd kd ks up k (its.drop k) st1 = some st') (fun i _ => its.length - (intOf i).toNat)
 case atStart => exact ⟨0, st, by omega, rfl, hwN, .refl _ _ _, h⟩
 case round =>
  obtain ⟨k, st1, hkl, rfl, hW, hK, hP⟩ := hrel
  have e1 := hK.kept _ _ eN hNb (by intro c fz e; cases e)
  by_cases hkk : k < its.length
  ·rw [List.drop_eq_getElem_cons hkk] at hP
   simp only [itemsF] at hP
   split at hP
   ·cases hP
   rename_i hx8
   obtain ⟨lb', dp', kd', co', sc', s', its', ks', hxe⟩ := isNode_eq (x := its[k]) (by simpa using hx8)
   obtain ⟨IB, io, g, rfl, hSI, hg, hg1, Rx⟩ := hi k its[k] (List.getElem?_eq_getElem hkk) (by rw [hxe]; rfl)
   have Rx' := Rx
   rw [hxe] at Rx'
   obtain ⟨iv', kv', hag, Ri', Rk', _, _⟩ := node_rep Rx'
   obtain ⟨ia', ic', hiv, _, _⟩ := items_rep Ri'
   obtain ⟨ka', kc', hkv, _, _⟩ := keys_rep Rk'
   clear Ri' Rk' Rx'
   simp only [Value.agg.injEq, Array.mk.injEq, List.cons.injEq, and_true] at hag
   obtain ⟨g0, g1, g2, g3, g4, g5, g6, g7⟩ := hag
   rw [hiv] at g6
   rw [hkv] at g7
   clear hiv hkv
   have i0 : wr.cell? ⟨IB, io + k * 8, none⟩ = some (g 0) := cell_kept C.lt hW.below hSI (hg 0 (by omega))
   have i1 := cell_kept C.lt hW.below hSI (hg 1 (by omega))
   have i2 := cell_kept C.lt hW.below hSI (hg 2 (by omega))
   have i3 := cell_kept C.lt hW.below hSI (hg 3 (by omega))
   have i4 := cell_kept C.lt hW.below hSI (hg 4 (by omega))
   have i5 := cell_kept C.lt hW.below hSI (hg 5 (by omega))
   have i6 := cell_kept C.lt hW.below hSI (hg 6 (by omega))
   have i7 := cell_kept C.lt hW.below hSI (hg 7 (by omega))
   rw [g0, g1, g2, g3, g4, g5, g6, g7] at Rx
   rw [g0] at i0
   rw [g1] at i1
   rw [g2] at i2
   rw [g3] at i3
   rw [g4] at i4
   rw [g5] at i5
   rw [g6] at i6
   rw [g7] at i7
   clear g0 g1 g2 g3 g4 g5 g6 g7 hg hg1
   have hWX := hW.alloc (.cells #[.int .i64 lb', .int .i64 dp', .int .i64 kd', .int .i64 co', .int .i64 sc', .string s', .slice ia' its'.length ic', .slice ka' ks'.length kc'] 27)
   have kX := hW.wkAlloc (.cells #[.int .i64 lb', .int .i64 dp', .int .i64 kd', .int .i64 co', .int .i64 sc', .string s', .slice ia' its'.length ic', .slice ka' ks'.length kc'] 27)
   have eX : (wr.alloc (.cells #[.int .i64 lb', .int .i64 dp', .int .i64 kd', .int .i64 co', .int .i64 sc', .string s', .slice ia' its'.length ic', .slice ka' ks'.length kc'] 27)).heap[wr.heap.size]? = some (.cells #[.int .i64 lb', .int .i64 dp', .int .i64 kd', .int .i64 co', .int .i64 sc', .string s', .slice ia' its'.length ic', .slice ka' ks'.length kc'] 27) := heap_alloc_new wr _
   have eNX := kX.kept _ _ e1 hNb (by intro c fz e; cases e)
   have hzX : (wr.alloc (.cells #[.int .i64 lb', .int .i64 dp', .int .i64 kd', .int .i64 co', .int .i64 sc', .string s', .slice ia' its'.length ic', .slice ka' ks'.length kc'] 27)).heap.size = wr.heap.size + 1 := by simp
   have hXb : some wr.heap.size ≠ some b := fun e => by
    have := hW.wr.heap.2
    have := Option.some.inj e
    omega
   obtain ⟨c0, c1, c2, c3, c4, c5, c6, c7⟩ := cells8 eNX
   have d5 := hWX.wr.cell5
   obtain ⟨o1', f1⟩ := st1
   cases f1 with
   | true =>
    rw [if_pos rfl] at hP
    cases hP
    go_wp2
    go_returns
    exact ⟨rfl, hWX, (kN.trans hK).trans kX⟩
   | false =>
    rw [if_neg (by simp)] at hP
    obtain ⟨s1, hcm, hP1⟩ := Option.bind_eq_some_iff.1 hP
    obtain ⟨s2, hkey, hP2⟩ := Option.bind_eq_some_iff.1 hP1
    obtain ⟨st3, hnd, hP3⟩ := Option.bind_eq_some_iff.1 hP2
    clear hP hP1 hP2
    by_cases hk0 : 0 < k
    ·rw [if_pos hk0] at hcm
     have hgt : decide ((k : Int) > 0) = true := decide_eq_true (by omega)
     have hp := hWX.put1 _ hcm
     rw [hzX] at hp
     go_wp2_with (go_at_call 55; refine hp.mono ?_)
     rintro e w2 ⟨rfl, h2, k2⟩
     clear hp c0 c1 c2 c3 c4 c5 c6 c7 d5
     have eN2 := k2.kept _ _ eNX hNb (by intro c fz e; cases e)
     have eX2 := k2.kept _ _ eX hXb (by intro c fz e; cases e)
     obtain ⟨c0, c1, c2, c3, c4, c5, c6, c7⟩ := cells8 eN2
     have kK := (hK.trans kX).trans k2
     by_cases h6 : kd = 6 ∧ k < ks.length
     ·rw [if_pos h6] at hkey
      obtain ⟨h6a, h6b⟩ := h6
      subst h6a
      split at hkey
      ·rename_i kt hkt
       obtain ⟨et, hq1, hkey⟩ := Option.bind_eq_some_iff.1 hkey
       obtain ⟨qt, hq2, hkey⟩ := Option.bind_eq_some_iff.1 hkey
       obtain ⟨KB, ko, rfl, hSK, hkc0⟩ := hk k kt hkt
       have kc1 := cell_kept C.lt h2.below hSK hkc0
       have hlt6 : ((k : Int) < (ks.length : Int)) := by omega
       have hca := C.askStr h2.below (args := #[.string kt]) hq1 ⟨.str kt, trivial⟩
       go_wp2_with (go_at_call 87; refine hca.mono ?_)
       rintro e w3 ⟨rfl, b3⟩
       clear hca c0 c1 c2 c3 c4 c5 c6 c7
       have h3 := h2.kept b3
       have k3 : Wk W0.heap.size b _ w3 := Wk.of h2.size b3
       have hcb := C.askStr h3.below (args := #[.string et]) hq2 ⟨.str et, trivial⟩
       go_wp2_with (go_at_call 57; refine hcb.mono ?_)
       rintro e w4 ⟨rfl, b4⟩
       clear hcb
       have h4 := h3.kept b4
       have k4 : Wk W0.heap.size b _ w4 := Wk.of h3.size b4
       have hp := h4.put2 _ _ hkey
       go_wp2_with (go_at_call 55; refine hp.mono ?_)
       rintro e w5 ⟨rfl, h5, k5⟩
       clear hp
       have kX9 := (k3.trans k4).trans k5
       have eX9 := kX9.kept _ _ eX2 hXb (by intro c fz e; cases e)
       obtain ⟨x0, x1, x2, x3, x4, x5, x6, x7⟩ := cells8 eX9
       have hc := hN its[k] up _ st3 _ _ hnd Rx h5
       go_wp2_with (go_at_call 27; refine hc.mono ?_)
       rintro e w9 ⟨rfl, h9, k9⟩
       clear hc
       go_wp2
       exact ⟨⟨k + 1, st3, by omega, by simp, h9, (kK.trans kX9).trans k9, hP3⟩, by simp [intOf]; omega⟩
      ·cases hkey
     ·rw [if_neg h6] at hkey
      cases hkey
      obtain ⟨x0, x1, x2, x3, x4, x5, x6, x7⟩ := cells8 eX2
      have hc := hN its[k] up _ st3 _ _ hnd Rx h2
      have hl6 : kd = 6 → ¬ ((k : Int) < (ks.length : Int)) := fun e1 e2 => h6 ⟨e1, by omega⟩
      by_cases hkd : kd = 6
      ·have hl7 := hl6 hkd
       clear hl6 h6
       subst hkd
       go_wp2_with (go_at_call 27; refine hc.mono ?_)
       all_goals (
        rintro e w9 ⟨rfl, h9, k9⟩
        go_wp2
        exact ⟨⟨k + 1, st3, by omega, by simp, h9, kK.trans k9, hP3⟩, by simp [intOf]; omega⟩)
      ·clear hl6 h6
       go_wp2_with (go_at_call 27; refine hc.mono ?_)
       all_goals (
        rintro e w9 ⟨rfl, h9, k9⟩
        go_wp2
        exact ⟨⟨k + 1, st3, by omega, by simp, h9, kK.trans k9, hP3⟩, by simp [intOf]; omega⟩)
    ·rw [if_neg hk0] at hcm
     cases hcm
     have hgt : decide ((k : Int) > 0) = false := decide_eq_false (by omega)
     have kK := hK.trans kX
     have h2 := hWX
     have eX2 := eX
     by_cases h6 : kd = 6 ∧ k < ks.length
     ·rw [if_pos h6] at hkey
      obtain ⟨h6a, h6b⟩ := h6
      subst h6a
      split at hkey
      ·rename_i kt hkt
       obtain ⟨et, hq1, hkey⟩ := Option.bind_eq_some_iff.1 hkey
       obtain ⟨qt, hq2, hkey⟩ := Option.bind_eq_some_iff.1 hkey
       obtain ⟨KB, ko, rfl, hSK, hkc0⟩ := hk k kt hkt
       have kc1 := cell_kept C.lt h2.below hSK hkc0
       have hlt6 : ((k : Int) < (ks.length : Int)) := by omega
       have hca := C.askStr h2.below (args := #[.string kt]) hq1 ⟨.str kt, trivial⟩
       go_wp2_with (go_at_call 87; refine hca.mono ?_)
       rintro e w3 ⟨rfl, b3⟩
       clear hca c0 c1 c2 c3 c4 c5 c6 c7
       have h3 := h2.kept b3
       have k3 : Wk W0.heap.size b _ w3 := Wk.of h2.size b3
       have hcb := C.askStr h3.below (args := #[.string et]) hq2 ⟨.str et, trivial⟩
       go_wp2_with (go_at_call 57; refine hcb.mono ?_)
       rintro e w4 ⟨rfl, b4⟩
       clear hcb
       have h4 := h3.kept b4
       have k4 : Wk W0.heap.size b _ w4 := Wk.of h3.size b4
       have hp := h4.put2 _ _ hkey
       go_wp2_with (go_at_call 55; refine hp.mono ?_)
       rintro e w5 ⟨rfl, h5, k5⟩
       clear hp
       have kX9 := (k3.trans k4).trans k5
       have eX9 := kX9.kept _ _ eX2 hXb (by intro c fz e; cases e)
       obtain ⟨x0, x1, x2, x3, x4, x5, x6, x7⟩ := cells8 eX9
       have hc := hN its[k] up _ st3 _ _ hnd Rx h5
       go_wp2_with (go_at_call 27; refine hc.mono ?_)
       rintro e w9 ⟨rfl, h9, k9⟩
       clear hc
       go_wp2
       exact ⟨⟨k + 1, st3, by omega, by simp, h9, (kK.trans kX9).trans k9, hP3⟩, by simp [intOf]; omega⟩
      ·cases hkey
     ·rw [if_neg h6] at hkey
      cases hkey
      obtain ⟨x0, x1, x2, x3, x4, x5, x6, x7⟩ := cells8 eX2
      have hc := hN its[k] up _ st3 _ _ hnd Rx h2
      have hl6 : kd = 6 → ¬ ((k : Int) < (ks.length : Int)) := fun e1 e2 => h6 ⟨e1, by omega⟩
      by_cases hkd : kd = 6
      ·have hl7 := hl6 hkd
       clear hl6 h6
       subst hkd
       go_wp2_with (go_at_call 27; refine hc.mono ?_)
       all_goals (
        rintro e w9 ⟨rfl, h9, k9⟩
        go_wp2
        exact ⟨⟨k + 1, st3, by omega, by simp, h9, kK.trans k9, hP3⟩, by simp [intOf]; omega⟩)
      ·clear hl6 h6
       go_wp2_with (go_at_call 27; refine hc.mono ?_)
       all_goals (
        rintro e w9 ⟨rfl, h9, k9⟩
        go_wp2
        exact ⟨⟨k + 1, st3, by omega, by simp, h9, kK.trans k9, hP3⟩, by simp [intOf]; omega⟩)
  ·have : k = its.length := by omega
   subst this
   rw [List.drop_length] at hP
   simp only [itemsF] at hP
   cases hP
   go_wp2
   go_returns
   exact ⟨rfl, hW, kN.trans hK⟩
end Go.Ab
end
section
namespace Go.Ab
open Go.Proofs Go.RowKit
set_option maxHeartbeats 4000000 in
set_option maxRecDepth 1000000 in
theorem node_walk {W0 : World} {S : Nat → Prop} {b : Nat} {L : FV} {lv : Value} (C : Ctx W0 S b L lv) {a most : Int} {nd : FV → Int → ShS → Option ShS} (hN : NDW W0 S b lv a most nd) : NDW W0 S b lv a most (nodeF L a most nd) := by
 intro x up st st' v w h R hw
 have hB := body_walk C (items_walk C hN)
 unfold nodeF at h
 split at h
 ·rename_i lb dp kd co sc s its ks
  obtain ⟨j, hj, ha⟩ := Option.bind_eq_some_iff.1 h
  obtain ⟨le, hle, hb0⟩ := Option.bind_eq_some_iff.1 ha
  clear h ha
  have h := hb0
  clear hb0
  have R0 := R
  obtain ⟨iv, kv, rfl, Ri, Rk, o1, o2⟩ := node_rep R
  have eN : (w.alloc (.cells #[.int .i64 lb, .int .i64 dp, .int .i64 kd, .int .i64 co, .int .i64 sc, .string s, iv, kv] 27)).heap[w.heap.size]? = some (.cells #[.int .i64 lb, .int .i64 dp, .int .i64 kd, .int .i64 co, .int .i64 sc, .string s, iv, kv] 27 (0, 0)) := heap_alloc_new w _
  have hwN := hw.alloc (.cells #[.int .i64 lb, .int .i64 dp, .int .i64 kd, .int .i64 co, .int .i64 sc, .string s, iv, kv] 27)
  have kN := hw.wkAlloc (.cells #[.int .i64 lb, .int .i64 dp, .int .i64 kd, .int .i64 co, .int .i64 sc, .string s, iv, kv] 27)
  have hNb : some w.heap.size ≠ some b := fun e => by
   have := hw.wr.heap.2
   have := Option.some.inj e
   omega
  go_enter Try.func27, Try.ntmps27
  go_wp2
  generalize (w.alloc (.cells #[.int .i64 lb, .int .i64 dp, .int .i64 kd, .int .i64 co, .int .i64 sc, .string s, iv, kv] 27)) = wN at eN hwN kN ⊢
  obtain ⟨c0, c1, c2, c3, c4, c5, c6, c7⟩ := cells8 eN
  have d0 := hwN.wr.cell0
  have d1 := hwN.wr.cell1
  go_still_tail 7, (by kernel_rfl)
  clear c0 c1 c2 c3 c4 c5 c6 c7 d0 d1
  have hwD : Wst W0 b lv a most st wN.drew := ⟨hwN.wr, hwN.below.drew⟩
  have kD : Wk W0.heap.size b w wN.drew := ⟨kN.below.drew, kN.kept, kN.size⟩
  have eD : wN.drew.heap[w.heap.size]? = some (.cells #[.int .i64 lb, .int .i64 dp, .int .i64 kd, .int .i64 co, .int .i64 sc, .string s, iv, kv] 27 (0, 0)) := eN
  change wpList _ _ _ _ _ wN.drew
  generalize wN.drew = wD at hwD kD eD ⊢
  clear eN hwN kN
  have hcJ := C.askInt hwD.below (args := #[lv, .int .i64 up, .int .i64 lb]) hj ⟨C.rep_in hwD.below C.rep, .int _ _, .int _ _, trivial⟩
  go_wp2_with (go_at_call 53; refine hcJ.mono ?_)
  rintro e w1 ⟨rfl, b1⟩
  clear hcJ
  have h1 := hwD.kept b1
  have k1 : Wk W0.heap.size b _ w1 := Wk.of hwD.size b1
  have e1 := k1.kept _ _ eD hNb (by intro c fz e; cases e)
  have kk1 := kD.trans k1
  have d0 := h1.wr.cell0
  have d1 := h1.wr.cell1
  go_wp2_with fail
  go_still_tail 9, (by kernel_rfl)
  have hwE : Wst W0 b lv a most st w1.drew := ⟨h1.wr, h1.below.drew⟩
  have kE : Wk W0.heap.size b w w1.drew := ⟨kk1.below.drew, kk1.kept, kk1.size⟩
  have eE : w1.drew.heap[w.heap.size]? = some (.cells #[.int .i64 lb, .int .i64 dp, .int .i64 kd, .int .i64 co, .int .i64 sc, .string s, iv, kv] 27 (0, 0)) := e1
  clear d0 d1 e1 eD hwD kD k1 kk1
  change wpList _ _ _ _ _ w1.drew
  generalize w1.drew = wE at hwE kE eE ⊢
  have hcL := C.askBool hwE.below (args := #[lv, .int .i64 j, .int .i64 a]) hle ⟨C.rep_in hwE.below C.rep, .int _ _, .int _ _, trivial⟩
  go_wp2_with (go_at_call 54; refine hcL.mono ?_)
  rintro e w2 ⟨rfl, b2⟩
  clear hcL
  have h2 := hwE.kept b2
  have k2 : Wk W0.heap.size b _ w2 := Wk.of hwE.size b2
  have e2 := k2.kept _ _ eE hNb (by intro c fz e; cases e)
  have kk2 := kE.trans k2
  clear eE hwE kE k2 b2 b1 h1
  cases le with
  | false =>
   rw [if_pos rfl] at h
   have hp := h2.put1 _ h
   go_wp2_with (go_at_call 55; refine hp.mono ?_)
   rintro e w3 ⟨rfl, h3, k3⟩
   go_wp2
   go_returns
   exact ⟨rfl, h3, kk2.trans k3⟩
  | true =>
   rw [if_neg (by simp)] at h
   obtain ⟨c0, c1, c2, c3, c4, c5, c6, c7⟩ := cells8 e2
   by_cases hju : j = up
   ·rw [if_pos hju] at h
    subst hju
    have hb := hB _ _ _ _ _ _ h R0 h2
    go_wp2_with (go_at_call 56; refine hb.mono ?_)
    rintro e w3 ⟨rfl, h3, k3⟩
    go_wp2
    go_returns
    exact ⟨rfl, h3, kk2.trans k3⟩
   ·rw [if_neg hju] at h
    obtain ⟨t, hq1, ha1⟩ := Option.bind_eq_some_iff.1 h
    obtain ⟨q, hq2, ha2⟩ := Option.bind_eq_some_iff.1 ha1
    obtain ⟨s1, hp1, ha3⟩ := Option.bind_eq_some_iff.1 ha2
    obtain ⟨s2, hb2, ha4⟩ := Option.bind_eq_some_iff.1 ha3
    clear h ha1 ha2 ha3
    have h := ha4
    clear ha4
    have d0 := h2.wr.cell0
    have hca := C.askStr h2.below (args := #[lv, .int .i64 j]) hq1 ⟨C.rep_in h2.below C.rep, .int _ _, trivial⟩
    go_wp2_with (go_at_call 58; refine hca.mono ?_)
    rintro e w3 ⟨rfl, b3⟩
    clear hca d0 c0 c1 c2 c3 c4 c5 c6 c7
    have h3 := h2.kept b3
    have k3 : Wk W0.heap.size b _ w3 := Wk.of h2.size b3
    have hcb := C.askStr h3.below (args := #[.string t]) hq2 ⟨.str t, trivial⟩
    go_wp2_with (go_at_call 57; refine hcb.mono ?_)
    rintro e w4 ⟨rfl, b4⟩
    clear hcb
    have h4 := h3.kept b4
    have k4 : Wk W0.heap.size b _ w4 := Wk.of h3.size b4
    have hp := h4.put3 _ _ _ hp1
    go_wp2_with (go_at_call 55; refine hp.mono ?_)
    rintro e w5 ⟨rfl, h5, k5⟩
    clear hp
    have kk5 := (k3.trans k4).trans k5
    have e5 := kk5.kept _ _ e2 hNb (by intro c fz e; cases e)
    obtain ⟨c0, c1, c2, c3, c4, c5, c6, c7⟩ := cells8 e5
    have hb := hB _ _ _ _ _ _ hb2 R0 h5
    go_wp2_with (go_at_call 56; refine hb.mono ?_)
    rintro e w6 ⟨rfl, h6, k6⟩
    clear hb c0 c1 c2 c3 c4 c5 c6 c7
    have hp := h6.put1 _ h
    go_wp2_with (go_at_call 55; refine hp.mono ?_)
    rintro e w7 ⟨rfl, h7, k7⟩
    go_wp2
    go_returns
    exact ⟨rfl, h7, ((kk2.trans kk5).trans k6).trans k7⟩
 ·cases h
theorem nodeS_walk {W0 : World} {S : Nat → Prop} {b : Nat} {L : FV} {lv : Value} (C : Ctx W0 S b L lv) {a most : Int} : ∀ n, NDW W0 S b lv a most (nodeS L a most n)
 | 0 => fun x up st st' v w h => by cases h
 | n + 1 => node_walk C (nodeS_walk C n)
end Go.Ab
end
section
namespace Go.Ab
open Go.Proofs Go.RowKit
def SP (B : Nat) (out : List UInt8) (w : World) (e : Ending) (w' : World) : Prop := e = .returned (.string ⟨out.toArray⟩) ∧ Below B w w'
theorem WR.str {B b : Nat} {l : Value} {a most : Int} {full : Bool} {out : List UInt8} {w : World} (h : WR B b l a most full out w) :
   Calls Try.prog 28 #[.pointer (some ⟨b, 2, none⟩)] w (SP B out w) := by
 obtain ⟨cs, hI, _⟩ := h
 exact (E_String Try.lays169 Try.Builder_Extra_105 (T := 71) hI).mono fun e w' h => ⟨h.1, h.2.1⟩
noncomputable def showS (L x : FV) (a most : Int) : Option ShS :=
  if (L.isPt || L.isNil) = false ∨ isNode x = false then none else (qInt 16 [L]).bind fun j => nodeS L a most 100000 x j ([], false)
def showAns (r : ShS) : Value := if r.2 = true then .tuple #[.string ⟨#[]⟩, .bool false] else .tuple #[.string ⟨r.1.toArray⟩, .bool true]
theorem fresh_wr2 (w : World) (o : Obj) (p : Option Addr) (a most : Int) : WR w.heap.size (w.heap.size + 1) (.pointer p) a most false [] ((w.alloc o).alloc (.cells #[.pointer p, .int .i64 a, .pointer none, .slice none 0 0, .int .i64 most, .bool false] 71)) := by
 have hz : (w.alloc o).heap.size = w.heap.size + 1 := by simp
 refine ⟨#[.pointer p, .int .i64 a, .pointer none, .slice none 0 0, .int .i64 most, .bool false], .inl ⟨by omega, ?_, rfl, .slice none 0 0, rfl, ⟨rfl, .inl ⟨rfl, rfl⟩⟩, by simp [Value.ownBlock], fun _ => rfl⟩, rfl, rfl, rfl, rfl, rfl⟩
 rw [← hz]
 exact heap_alloc_new _ _
set_option maxHeartbeats 8000000 in
set_option maxRecDepth 1000000 in
theorem text_walk {w : World} {S : Nat → Prop} {L x : FV} {lv v : Value} {a most : Int} {r : ShS} (hS : ∀ k, S k → k < w.heap.size) (hG : GlobOK Try.prog w (fun b => b < w.heap.size)) (RL : Rep w S L lv) (R : Rep w S x v) (h : showS L x a most = some r) :
   Calls Try.prog 11 #[lv, v, .int .i64 a, .int .i64 most] w fun e w' => e = .returned (showAns r) ∧ Below w.heap.size w w' := by
 unfold showS at h
 split at h
 · cases h
 rename_i hc
 obtain ⟨j, hj, hn⟩ := Option.bind_eq_some_iff.1 h
 obtain ⟨hc1, hc2⟩ := not_or.1 hc
 obtain ⟨p, rfl⟩ : ∃ p, lv = .pointer p := by
   cases RL <;> first | exact ⟨_, rfl⟩ | (exact absurd rfl hc1)
 obtain ⟨lb, dp, kd, co, sc, s, its, ks, rfl⟩ := isNode_eq (x := x) (by simpa using hc2)
 have R0 := R
 obtain ⟨iv, kv, rfl, Ri, Rk, o1, o2⟩ := node_rep R
 obtain ⟨ia, ic, rfl, _, _⟩ := items_rep Ri
 obtain ⟨ka, kc, rfl, _, _⟩ := keys_rep Rk
 clear h hc hc1 hc2 Ri Rk o1 o2 R
 have hw0 := fresh_wr2 w (.cells #[.int .i64 lb, .int .i64 dp, .int .i64 kd, .int .i64 co, .int .i64 sc, .string s, .slice ia its.length ic, .slice ka ks.length kc] 27) p a most
 have eN0 : ((w.alloc (.cells #[.int .i64 lb, .int .i64 dp, .int .i64 kd, .int .i64 co, .int .i64 sc, .string s, .slice ia its.length ic, .slice ka ks.length kc] 27)).alloc (.cells #[.pointer p, .int .i64 a, .pointer none, .slice none 0 0, .int .i64 most, .bool false] 71)).heap[w.heap.size]? = some (.cells #[.int .i64 lb, .int .i64 dp, .int .i64 kd, .int .i64 co, .int .i64 sc, .string s, .slice ia its.length ic, .slice ka ks.length kc] 27 (0, 0)) := by
   rw [Lib.alloc_old _ _ _ (by simp)]
   exact heap_alloc_new w _
 have b0 : Below w.heap.size w ((w.alloc (.cells #[.int .i64 lb, .int .i64 dp, .int .i64 kd, .int .i64 co, .int .i64 sc, .string s, .slice ia its.length ic, .slice ka ks.length kc] 27)).alloc (.cells #[.pointer p, .int .i64 a, .pointer none, .slice none 0 0, .int .i64 most, .bool false] 71)) := (alloc_wk w _).trans (below_down (by simp) (alloc_wk _ _))
 have C : Ctx w S (w.heap.size + 1) L (.pointer p) := ⟨hS, hG, RL, by omega⟩
 have hND := nodeS_walk C (a := a) (most := most) 100000
 go_enter Try.func11, Try.ntmps11
 go_wp2
 generalize ((w.alloc (.cells #[.int .i64 lb, .int .i64 dp, .int .i64 kd, .int .i64 co, .int .i64 sc, .string s, .slice ia its.length ic, .slice ka ks.length kc] 27)).alloc (.cells #[.pointer p, .int .i64 a, .pointer none, .slice none 0 0, .int .i64 most, .bool false] 71)) = w2 at hw0 eN0 b0 ⊢
 have hwD : Wst w (w.heap.size + 1) (.pointer p) a most ([], false) w2.drew := ⟨hw0, b0.drew⟩
 have hcB := C.askInt hwD.below (args := #[.pointer p]) hj ⟨C.rep_in hwD.below RL, trivial⟩
 have hNb : some w.heap.size ≠ some (w.heap.size + 1) := fun e => by
   have := Option.some.inj e
   omega
 obtain ⟨c0, c1, c2, c3, c4, c5, c6, c7⟩ := cells8 eN0
 go_region_with (first
   | (go_at_call 16; refine hcB.mono ?_; rintro e w3 ⟨rfl, b3⟩; have h3 := hwD.kept b3; have e3 := (b3.block w.heap.size (Array.getElem?_eq_some_iff.1 eN0).1).trans eN0; obtain ⟨x0, x1, x2, x3, x4, x5, x6, x7⟩ := cells8 e3; have hcN := hND _ _ _ _ _ _ hn R0 h3)
   | (go_at_call 27; refine hcN.mono ?_; rintro e w4 ⟨rfl, h4, k4⟩))
 all_goals (
   clear c0 c1 c2 c3 c4 c5 c6 c7 hcB
   have d5 := h4.wr.cell5
   have hst := h4.wr.str
   obtain ⟨o4, f4⟩ := r
   cases f4 with
   | true =>
     go_wp2
     exact bodyPost_ret (results_tmp2 (fn := Try.f11) (t := 8) (u := 9) rfl _ _ _) rfl ⟨rfl, h4.below⟩
   | false =>
     go_wp2_with (go_at_call 28; refine hst.mono ?_)
     rintro e w5 ⟨rfl, b5⟩
     go_wp2
     exact bodyPost_ret (results_tmp2 (fn := Try.f11) (t := 8) (u := 9) rfl _ _ _) rfl ⟨rfl, h4.below.trans b5⟩)
noncomputable def showP (ts : List TV) : Option Ans := match ts with
 | [.fz L, .fz x, .fz (.int .i64 a), .fz (.int .i64 most)] => (showS L x a most).bind fun r => some (if r.2 = true then ([.fz (.str ⟨#[]⟩), .fz (.bool false)], []) else ([.fz (.str ⟨r.1.toArray⟩), .fz (.bool true)], []))
 | _ => none
theorem repTs_four {W : World} {S : Nat → Prop} {e1 e2 e3 e4 : FV} {args : Array Value} {Bs : List Nat} (h : RepTs W S [.fz e1, .fz e2, .fz e3, .fz e4] args.toList Bs) : ∃ x y z u, args = #[x, y, z, u] ∧ Bs = [] ∧ Rep W S e1 x ∧ Rep W S e2 y ∧ Rep W S e3 z ∧ Rep W S e4 u := by
 obtain ⟨l⟩ := args
 match l, h with
 | [x, y, z, u], h =>
  obtain ⟨B, Bs1, ⟨rfl, R1⟩, ⟨B2, Bs2, ⟨rfl, R2⟩, ⟨B3, Bs3, ⟨rfl, R3⟩, ⟨B4, Bs4, ⟨rfl, R4⟩, h5, hB4⟩, hB3⟩, hB2⟩, hB⟩ := h
  simp only [RepTs] at h5
  simp only at hB hB2 hB3 hB4
  exact ⟨x, y, z, u, rfl, by rw [hB, hB2, hB3, hB4, h5], R1, R2, R3, R4⟩
 | [], h => exact h.elim
 | [x], h => obtain ⟨_, _, _, h, _⟩ := h; exact h.elim
 | [x, y], h => obtain ⟨_, _, _, ⟨_, _, _, h, _⟩, _⟩ := h; exact h.elim
 | [x, y, z], h => obtain ⟨_, _, _, ⟨_, _, _, ⟨_, _, _, h, _⟩, _⟩, _⟩ := h; exact h.elim
 | x :: y :: z :: u :: v :: r, h => obtain ⟨_, _, _, ⟨_, _, _, ⟨_, _, _, ⟨_, _, _, h, _⟩, _⟩, _⟩, _⟩ := h; exact h.elim
theorem show_prim : ∀ ts r, showP ts = some r → CallOK Try.prog 11 ts r := by
 intro ts r e
 unfold showP at e
 split at e
 ·rename_i L x a most
  obtain ⟨s, hs, e⟩ := Option.bind_eq_some_iff.1 e
  cases e
  intro W S args Bs hlt hglob hT
  obtain ⟨v1, v2, v3, v4, rfl, rfl, R1, R2, R3, R4⟩ := repTs_four hT
  cases R3
  cases R4
  refine (text_walk hlt (hglob.mono hlt fun _ _ => rfl) R1 R2 hs).mono fun ex W' hp => ?_
  obtain ⟨rfl, b⟩ := hp
  unfold showAns
  have hts : ∀ t ∈ [TV.fz L, TV.fz x, TV.fz (.int .i64 a), TV.fz (.int .i64 most)], ∃ e, t = TV.fz e := fun t ht => by
   simp only [List.mem_cons, List.not_mem_nil, or_false] at ht
   rcases ht with rfl | rfl | rfl | rfl <;> exact ⟨_, rfl⟩
  obtain ⟨o, f⟩ := s
  cases f with
  | true => exact ans_two hts rfl hlt b (.str _) (.bool _)
  | false => exact ans_two hts rfl hlt b (.str _) (.bool _)
 ·cases e
noncomputable def A_show : AFunc := ⟨4, [], .skip, some showP⟩
end Go.Ab
end
