/- The row ShowAlike, part 5 of 6: texts written for this work, merged by a program of the session. No condition. -/
import Derived.Test.YtkolniefdijlhaaProg
import Derived.Test.YtkolniefdijlhaaMShowAlike4
set_option linter.unusedVariables false
set_option linter.unusedSimpArgs false
set_option linter.unusedSectionVars false
section
namespace Go.Ab
open Go.Proofs
noncomputable def tab : Nat → Option AFunc
 | 6 => some A_law12_ShowAlike
 | 7 => some A_law12_of
 | 8 => some A_law12_light
 | 9 => some A_law12_lives
 | 10 => some A_ref12_Text
 | 13 => some A_ref05_Is
 | 16 => some A_level_Lattice_Bottom
 | 17 => some A_ref06_Text
 | 18 => some A_erase_Alike
 | 19 => some A_ref01_Sort
 | 20 => some A_level_New
 | 21 => some A_ref01_Table
 | 22 => some A_ref09_Light
 | 23 => some A_ref09_Is
 | 24 => some A_ref12_text
 | 25 => some A_ref11_Erase
 | 26 => some A_ref09_Bottom
 | 31 => some A_ref05_zero
 | 32 => some A_ref03_Signs
 | 33 => some A_ref04_Is
 | 34 => some A_node_deep
 | 35 => some A_ref04_Text
 | 36 => some A_ref06_quote
 | 37 => some A_node_Same
 | 38 => some A_erase_At
 | 39 => some A_level_named
 | 40 => some A_level_laid
 | 41 => some A_level_closed
 | 42 => some A_level_twisted
 | 43 => some A_level_Lattice_fill
 | 44 => some A_ref09_Size
 | 45 => some A_ref09_Flat
 | 46 => some A_ref09_Labels
 | 47 => some A_ref09_right
 | 48 => some A_ref09_shape
 | 49 => some A_ref09_Strip
 | 50 => some A_ref12_body
 | 51 => some A_ref12_quote
 | 52 => some A_ref11_At
 | 53 => some A_level_Lattice_Join
 | 54 => some A_level_Lattice_Leq
 | 57 => some A_show_quoted
 | 58 => some A_level_Lattice_Text
 | 59 => some A_ref03_Put
 | 60 => some A_node_join
 | 61 => some A_ref04_Of
 | 62 => some A_ref03_Quote
 | 63 => some A_erase_under
 | 64 => some A_level_Name
 | 65 => some A_level_turned
 | 66 => some A_level_over
 | 67 => some A_ref09_Deep
 | 68 => some A_ref09_Join
 | 69 => some A_ref11_sees
 | 70 => some A_ref09_Top
 | 71 => some A_level_Lattice_Is
 | 72 => some A_level_Lattice_Top
 | 75 => some A_num_Text
 | 78 => some A_erase_hole
 | 79 => some A_node_Array
 | 80 => some A_ref01_Join
 | 81 => some A_level_Lattice_Size
 | 83 => some A_num_Is
 | 84 => some A_num_pow
 | 85 => some A_num_digits
 | 87 => some A_envelope_Key
 | 88 => some A_utf_Valid
 | 89 => some A_utf_quoted
 | 92 => some A_strings_HasPrefix
 | 94 => some A_utf_size
 | 97 => some A_internal_stringslite_HasPrefix
 | 99 => some A_utf_tail
 | 11 => some A_show
 | 86 => some A_repeat
 | 77 => some A_quote
 | _ => none
noncomputable def Rt : Orc := RR tab
theorem rt_call {f : Nat} (af : AFunc) {ts : List TV} {r : Ans} (hf : tab f = some af) (hl : (af.prim.isNone && (ts.length == af.np && Nat.blt af.np 1000)) = true) (k : Nat) (h : callL Rt k true af ts = some r) : Rt f ts = some r := RR_call af hf hl k h
theorem rt_prim {f : Nat} {af : AFunc} {p : List TV → Option Ans} {ts : List TV} {r : Ans} (hf : tab f = some af) (hp : af.prim = some p) (h : p ts = some r) : Rt f ts = some r := RR_prim hf hp h
set_option maxRecDepth 100000
theorem cf6 : compF Try.prog mds (livesBy Lv Tv 6) 6 Try.f6 = some A_law12_ShowAlike := by kernel_rfl
theorem cf9 : compF Try.prog mds (livesBy Lv Tv 9) 9 Try.f9 = some A_law12_lives := by kernel_rfl
theorem tab_ok : TabOK Try.prog mds (livesBy Lv Tv) tab := by
 intro f af h
 unfold tab at h
 split at h
 ·cases h; exact .inl ⟨Try.f6, by kernel_rfl, cf6⟩
 ·cases h; exact .inl ⟨Try.f7, by kernel_rfl, cf7⟩
 ·cases h; exact .inl ⟨Try.f8, by kernel_rfl, cf8⟩
 ·cases h; exact .inl ⟨Try.f9, by kernel_rfl, cf9⟩
 ·cases h; exact .inl ⟨Try.f10, by kernel_rfl, cf10⟩
 ·cases h; exact .inl ⟨Try.f13, by kernel_rfl, cf13⟩
 ·cases h; exact .inl ⟨Try.f16, by kernel_rfl, cf16⟩
 ·cases h; exact .inl ⟨Try.f17, by kernel_rfl, cf17⟩
 ·cases h; exact .inl ⟨Try.f18, by kernel_rfl, cf18⟩
 ·cases h; exact .inl ⟨Try.f19, by kernel_rfl, cf19⟩
 ·cases h; exact .inl ⟨Try.f20, by kernel_rfl, cf20⟩
 ·cases h; exact .inl ⟨Try.f21, by kernel_rfl, cf21⟩
 ·cases h; exact .inl ⟨Try.f22, by kernel_rfl, cf22⟩
 ·cases h; exact .inl ⟨Try.f23, by kernel_rfl, cf23⟩
 ·cases h; exact .inl ⟨Try.f24, by kernel_rfl, cf24⟩
 ·cases h; exact .inl ⟨Try.f25, by kernel_rfl, cf25⟩
 ·cases h; exact .inl ⟨Try.f26, by kernel_rfl, cf26⟩
 ·cases h; exact .inl ⟨Try.f31, by kernel_rfl, cf31⟩
 ·cases h; exact .inl ⟨Try.f32, by kernel_rfl, cf32⟩
 ·cases h; exact .inl ⟨Try.f33, by kernel_rfl, cf33⟩
 ·cases h; exact .inl ⟨Try.f34, by kernel_rfl, cf34⟩
 ·cases h; exact .inl ⟨Try.f35, by kernel_rfl, cf35⟩
 ·cases h; exact .inl ⟨Try.f36, by kernel_rfl, cf36⟩
 ·cases h; exact .inl ⟨Try.f37, by kernel_rfl, cf37⟩
 ·cases h; exact .inl ⟨Try.f38, by kernel_rfl, cf38⟩
 ·cases h; exact .inl ⟨Try.f39, by kernel_rfl, cf39⟩
 ·cases h; exact .inl ⟨Try.f40, by kernel_rfl, cf40⟩
 ·cases h; exact .inl ⟨Try.f41, by kernel_rfl, cf41⟩
 ·cases h; exact .inl ⟨Try.f42, by kernel_rfl, cf42⟩
 ·cases h; exact .inl ⟨Try.f43, by kernel_rfl, cf43⟩
 ·cases h; exact .inl ⟨Try.f44, by kernel_rfl, cf44⟩
 ·cases h; exact .inl ⟨Try.f45, by kernel_rfl, cf45⟩
 ·cases h; exact .inl ⟨Try.f46, by kernel_rfl, cf46⟩
 ·cases h; exact .inl ⟨Try.f47, by kernel_rfl, cf47⟩
 ·cases h; exact .inl ⟨Try.f48, by kernel_rfl, cf48⟩
 ·cases h; exact .inl ⟨Try.f49, by kernel_rfl, cf49⟩
 ·cases h; exact .inl ⟨Try.f50, by kernel_rfl, cf50⟩
 ·cases h; exact .inl ⟨Try.f51, by kernel_rfl, cf51⟩
 ·cases h; exact .inl ⟨Try.f52, by kernel_rfl, cf52⟩
 ·cases h; exact .inl ⟨Try.f53, by kernel_rfl, cf53⟩
 ·cases h; exact .inl ⟨Try.f54, by kernel_rfl, cf54⟩
 ·cases h; exact .inl ⟨Try.f57, by kernel_rfl, cf57⟩
 ·cases h; exact .inl ⟨Try.f58, by kernel_rfl, cf58⟩
 ·cases h; exact .inl ⟨Try.f59, by kernel_rfl, cf59⟩
 ·cases h; exact .inl ⟨Try.f60, by kernel_rfl, cf60⟩
 ·cases h; exact .inl ⟨Try.f61, by kernel_rfl, cf61⟩
 ·cases h; exact .inl ⟨Try.f62, by kernel_rfl, cf62⟩
 ·cases h; exact .inl ⟨Try.f63, by kernel_rfl, cf63⟩
 ·cases h; exact .inl ⟨Try.f64, by kernel_rfl, cf64⟩
 ·cases h; exact .inl ⟨Try.f65, by kernel_rfl, cf65⟩
 ·cases h; exact .inl ⟨Try.f66, by kernel_rfl, cf66⟩
 ·cases h; exact .inl ⟨Try.f67, by kernel_rfl, cf67⟩
 ·cases h; exact .inl ⟨Try.f68, by kernel_rfl, cf68⟩
 ·cases h; exact .inl ⟨Try.f69, by kernel_rfl, cf69⟩
 ·cases h; exact .inl ⟨Try.f70, by kernel_rfl, cf70⟩
 ·cases h; exact .inl ⟨Try.f71, by kernel_rfl, cf71⟩
 ·cases h; exact .inl ⟨Try.f72, by kernel_rfl, cf72⟩
 ·cases h; exact .inl ⟨Try.f75, by kernel_rfl, cf75⟩
 ·cases h; exact .inl ⟨Try.f78, by kernel_rfl, cf78⟩
 ·cases h; exact .inl ⟨Try.f79, by kernel_rfl, cf79⟩
 ·cases h; exact .inl ⟨Try.f80, by kernel_rfl, cf80⟩
 ·cases h; exact .inl ⟨Try.f81, by kernel_rfl, cf81⟩
 ·cases h; exact .inl ⟨Try.f83, by kernel_rfl, cf83⟩
 ·cases h; exact .inl ⟨Try.f84, by kernel_rfl, cf84⟩
 ·cases h; exact .inl ⟨Try.f85, by kernel_rfl, cf85⟩
 ·cases h; exact .inl ⟨Try.f87, by kernel_rfl, cf87⟩
 ·cases h; exact .inl ⟨Try.f88, by kernel_rfl, cf88⟩
 ·cases h; exact .inl ⟨Try.f89, by kernel_rfl, cf89⟩
 ·cases h; exact .inl ⟨Try.f92, by kernel_rfl, cf92⟩
 ·cases h; exact .inl ⟨Try.f94, by kernel_rfl, cf94⟩
 ·cases h; exact .inl ⟨Try.f97, by kernel_rfl, cf97⟩
 ·cases h; exact .inl ⟨Try.f99, by kernel_rfl, cf99⟩
 ·cases h; exact .inr ⟨Try.f11, _, rfl, by kernel_rfl, by kernel_rfl, by kernel_rfl, show_prim⟩
 ·cases h; exact .inr ⟨Try.f86, _, rfl, by kernel_rfl, by kernel_rfl, by kernel_rfl, repeat_prim⟩
 ·cases h; exact .inr ⟨Try.f77, _, rfl, by kernel_rfl, by kernel_rfl, by kernel_rfl, quote_prim⟩
 ·cases h
theorem lift {f : Nat} {ts : List TV} {r : Ans} (h : Rt0 f ts = some r) : Rt f ts = some r := RR_sub (fun f af h => by
 unfold tab0 at h
 split at h <;> cases h <;> rfl) h
end Go.Ab
end
section
namespace Go.Ab
def dc (n : Nat) : UInt8 := UInt8.ofNat (48 + n % 10)
def dg (n : Nat) : List UInt8 := if n / 10 = 0 then [dc n] else dg (n / 10) ++ [dc n]
termination_by n
decreasing_by omega
def pd : Nat → Nat → List UInt8
 | 0, _ => []
 | k + 1, n => pd k (n / 10) ++ [dc n]
theorem pd_len : ∀ k n, (pd k n).length = k
 | 0, _ => rfl
 | k + 1, n => by simp [pd, pd_len k]
theorem pd_zero : ∀ k, pd k 0 = List.replicate k 48
 | 0 => rfl
 | k + 1 => by
  rw [pd, Nat.zero_div, pd_zero k, List.replicate_succ']
  rfl
theorem dg_len_pos (n : Nat) : 0 < (dg n).length := by
 rw [dg]
 split <;> simp
theorem pd_dg : ∀ (n m : Nat), (dg n).length ≤ m → pd m n = List.replicate (m - (dg n).length) 48 ++ dg n := by
 intro n
 induction n using Nat.strongRecOn with
 | ind n ih =>
  intro m hm
  have h0 := dg_len_pos n
  obtain ⟨k, rfl⟩ : ∃ k, m = k + 1 := ⟨m - 1, by omega⟩
  rw [pd]
  by_cases hz : n / 10 = 0
  ·rw [hz, pd_zero]
   have hd : dg n = [dc n] := by rw [dg, if_pos hz]
   rw [hd]
   simp
  ·have hd : dg n = dg (n / 10) ++ [dc n] := by rw [dg, if_neg hz]
   rw [hd] at hm ⊢
   simp only [List.length_append, List.length_cons, List.length_nil] at hm ⊢
   rw [ih (n / 10) (by omega) k (by omega), show k + 1 - ((dg (n / 10)).length + (0 + 1)) = k - (dg (n / 10)).length by omega, List.append_assoc]
theorem pd_succ : ∀ (k n : Nat), pd (k + 1) n = dc (n / 10 ^ k) :: pd k n
  | 0, n => by simp [pd]
  | k + 1, n => by
    rw [pd, pd_succ k (n / 10), List.cons_append, pd, Nat.div_div_eq_div_mul, ← Nat.pow_succ']
theorem pd_mod : ∀ (k n : Nat), pd k (n % 10 ^ k) = pd k n
 | 0, _ => rfl
 | k + 1, n => by
  have h1 : n % 10 ^ (k + 1) / 10 = n / 10 % 10 ^ k := by rw [Nat.pow_succ', Nat.mod_mul_right_div_self]
  have h2 : dc (n % 10 ^ (k + 1)) = dc n := by
   unfold dc
   rw [Nat.pow_succ', Nat.mod_mul_right_mod]
  rw [pd, pd, h1, h2, pd_mod k (n / 10)]
theorem dg_len_le : ∀ (k n : Nat), n < 10 ^ (k + 1) → (dg n).length ≤ k + 1
 | 0, n, h => by
  rw [dg, if_pos (by omega)]
  simp
 | k + 1, n, h => by
  rw [dg]
  split
  ·simp
  ·have := dg_len_le k (n / 10) (by rw [Nat.div_lt_iff_lt_mul (by omega)]; rw [Nat.pow_succ] at h; exact h)
   simp only [List.length_append, List.length_cons, List.length_nil]
   omega
def lD (n : Nat) : List Int := if n = 0 then [] else ((n % 10 : Nat) : Int) :: lD (n / 10)
termination_by n
decreasing_by omega
theorem lD_zero : lD 0 = [] := by rw [lD]; simp
theorem lD_pos {n : Nat} (h : n ≠ 0) : lD n = ((n % 10 : Nat) : Int) :: lD (n / 10) := by rw [lD, if_neg h]
theorem lD_get : ∀ (i n : Nat), (lD n).getD i 0 = ((n / 10 ^ i % 10 : Nat) : Int)
 | 0, n => by
  by_cases h : n = 0
  ·subst h; rw [lD_zero]; rfl
  ·rw [lD_pos h]; simp
 | i + 1, n => by
  by_cases h : n = 0
  ·subst h; rw [lD_zero]; simp
  ·rw [lD_pos h, List.getD_cons_succ, lD_get i (n / 10), Nat.div_div_eq_div_mul, ← Nat.pow_succ']
theorem dg_len : ∀ n, (dg n).length = max 1 (lD n).length := by
 intro n
 induction n using Nat.strongRecOn with
 | ind n ih =>
  by_cases h0 : n = 0
  ·subst h0; rw [lD_zero, dg]; simp
  ·rw [lD_pos h0, dg]
   by_cases hz : n / 10 = 0
   ·rw [if_pos hz, hz, lD_zero]; simp
   ·rw [if_neg hz]
    have := ih (n / 10) (by omega)
    have h1 : 0 < (lD (n / 10)).length := by rw [lD_pos hz]; simp
    simp only [List.length_append, List.length_cons, List.length_nil]
    omega
theorem lD_div : ∀ (k n : Nat), (lD (n / 10 ^ k)).length = (lD n).length - k
 | 0, n => by simp
 | k + 1, n => by
  rw [Nat.pow_succ', ← Nat.div_div_eq_div_mul, lD_div k (n / 10)]
  by_cases h : n = 0
  ·subst h; simp [lD_zero]
  ·rw [lD_pos h]; simp only [List.length_cons]; omega
def nBody (a sc : Nat) : List UInt8 := dg (a / 10 ^ sc) ++ (if sc = 0 then [] else 46 :: pd sc a)
def numT (c s : Int) : List UInt8 := (if c < 0 then [45] else []) ++ nBody c.natAbs s.toNat
def rT (a sc : Nat) : Nat → List UInt8
  | 0 => []
  | i + 1 => dc (a / 10 ^ i) :: (if i = sc ∧ 0 < i then 46 :: rT a sc i else rT a sc i)
theorem rT_low (a sc : Nat) : ∀ i, i ≤ sc → rT a sc i = pd i a
 | 0, _ => rfl
 | i + 1, h => by
  rw [rT, if_neg (by omega), rT_low a sc i (by omega), pd_succ]
theorem rT_high (a sc : Nat) : ∀ i, rT a sc (sc + 1 + i) = pd (i + 1) (a / 10 ^ sc) ++ (if sc = 0 then [] else 46 :: pd sc a)
 | 0 => by
  rw [Nat.add_zero, rT, rT_low a sc sc (Nat.le_refl _), pd_succ]
  by_cases h : sc = 0
  ·subst h; simp [pd]
  ·rw [if_pos ⟨rfl, by omega⟩, if_neg h]; simp [pd]
 | i + 1 => by
  rw [← Nat.add_assoc, rT, if_neg (by omega), rT_high a sc i, pd_succ (i + 1), Nat.div_div_eq_div_mul, ← Nat.pow_add, List.cons_append, show sc + (i + 1) = sc + 1 + i by omega]
theorem rT_all (a sc : Nat) : rT a sc (max (lD a).length (sc + 1)) = nBody a sc := by
 obtain ⟨i, hi⟩ : ∃ i, max (lD a).length (sc + 1) = sc + 1 + i := ⟨max (lD a).length (sc + 1) - (sc + 1), by omega⟩
 rw [hi, rT_high, nBody]
 have h1 := dg_len (a / 10 ^ sc)
 rw [lD_div] at h1
 have h2 := pd_dg (a / 10 ^ sc) (i + 1) (by omega)
 rw [h2, show i + 1 - (dg (a / 10 ^ sc)).length = 0 by omega]
 rfl
end Go.Ab
end
section
namespace Go.Ab
def textB (s : ByteArray) : Bool := (signsL s.data.toList).isSome
def leB (a b : ByteArray) : Bool := Op.bytesLess a.toList b.toList || a.toList == b.toList
def num4B (c s : Int) : Bool := !(decide (s < 0)) && (!(decide (s > 9)) && (!(decide (c ≥ 1000000000000000)) && (!(decide (c ≤ (-1000000000000000))) && ((s == 0) || (Int.tmod c 10 != 0)))))
def zeroB (k c s : Int) (t : ByteArray) (li lk : Int) : Bool :=
 !((k != 3) && ((c != 0) || (s != 0))) && (!((k != 4) && ((k != 7) && !(t.toList == (⟨#[]⟩ : ByteArray).toList))) && (((k == 5) || ((k == 6) || (li == 0))) && ((k == 6) || (lk == 0))))
def keysOk : Option ByteArray → List ByteArray → Bool
 | _, [] => true
 | p, s :: r => textB s && ((match p with | none => true | some q => !(leB s q)) && keysOk (some s) r)
mutual
def isR : JV → Int → Bool
 | .mk k c s t is ks, d => !(decide (k < 0)) && (!(decide (k > 7)) && (zeroB k c s t is.length ks.length && (!(decide (d > 32)) && (textB t && ((!(k == 3) || num4B c s) && ((!(k == 6) || !((ks.length : Int) != is.length)) && (keysOk none ks && isRs is (IntKind.wrap .i64 (d + 1)))))))))
def isRs : List JV → Int → Bool
 | [], _ => true
 | v :: r, d => !(v.k == 7) && (isR v d && isRs r d)
end
theorem num4_ok (c s : Int) : Rt0 N_ref04_Is [.fz (.ag [.int .i64 c, .int .i64 s])] = some ([.fz (.bool (num4B c s))], []) := by
 refine rt_call0 A_ref04_Is rfl rfl 0 ?_
 rw [E_ref04_Is]
 simp only [jump_true, J_ref04_Is_1_0_eq]
 unfold num4B
 generalize decide (s < 0) = b1
 generalize decide (s > 9) = b2
 generalize decide (c ≥ 1000000000000000) = b3
 generalize decide (c ≤ (-1000000000000000)) = b4
 generalize (s == 0) = b5
 cases b1 <;> cases b2 <;> cases b3 <;> cases b4 <;> cases b5 <;> first | exact Eq.refl _ | simp
theorem zero_ok (k c s : Int) (t : ByteArray) (is : List JV) (ks : List ByteArray) : Rt0 N_ref05_zero [.fz (.ag [.int .i64 k, .int .i64 c, .int .i64 s, .str t, .sl (is.map JV.enc), .sl (ks.map .str)])] = some ([.fz (.bool (zeroB k c s t is.length ks.length))], []) := by
 refine rt_call0 A_ref05_zero rfl rfl 0 ?_
 have hJ : J_ref05_zero_1_0 Rt0 0 true k c s t (is.map JV.enc) (ks.map .str) = some ([.fz (.bool (((k == 5) || ((k == 6) || ((is.length : Int) == 0))) && ((k == 6) || ((ks.length : Int) == 0))))], []) := by
  rw [J_ref05_zero_1_0_eq]
  simp only [List.length_map]
  generalize (k == 5) = b1
  generalize (k == 6) = b2
  generalize ((is.length : Int) == 0) = b3
  generalize ((ks.length : Int) == 0) = b4
  cases b1 <;> cases b2 <;> cases b3 <;> cases b4 <;> exact Eq.refl _
 rw [E_ref05_zero]
 simp only [jump_true, hJ]
 unfold zeroB
 generalize (((k == 5) || ((k == 6) || ((is.length : Int) == 0))) && ((k == 6) || ((ks.length : Int) == 0))) = z
 generalize (k != 3) = b1
 generalize (c != 0) = b2
 generalize (s != 0) = b3
 generalize (k != 4) = b4
 generalize (k != 7) = b5
 generalize (t.toList == (⟨#[]⟩ : ByteArray).toList) = b6
 cases b1 <;> cases b2 <;> cases b3 <;> cases b4 <;> cases b5 <;> cases b6 <;> exact Eq.refl _
section
variable (d k c s : Int) (t : ByteArray) (is : List JV) (ks : List ByteArray) (hks : ∀ s ∈ ks, s.size ≤ 8796093022208) (hlk : ks.length ≤ 1152921504606846976)
include hks hlk
theorem text_ok {s : ByteArray} (h : s ∈ ks) : ∃ l, Rt0 N_ref03_Signs [.fz (.str s)] = some ([.fz (.sl l), .fz (.bool (textB s))], []) := by
 rw [signs_ok s (hks s h)]
 unfold textB
 cases signsL s.data.toList with
 | none => exact ⟨_, rfl⟩
 | some cs => exact ⟨_, rfl⟩
def prevK (ks : List ByteArray) (i : Nat) : Option ByteArray := match i with | 0 => none | m + 1 => ks[m]?
theorem is_keys (K : Nat) : ∀ (n f i : Nat), n < f → ks.length ≤ i + n → i ≤ ks.length →
   onL (L_ref05_Is_1_0 Rt0 K true f d i k c s t (is.map JV.enc) (ks.map .str)) (K_ref05_Is_1 Rt0 K true) = (match keysOk (prevK ks i) (ks.drop i) with
     | true => K_ref05_Is_1 Rt0 K true (.exit 0) (X_ref05_Is_1_1 d k c s t (is.map JV.enc) (ks.map .str))
     | false => some ([.fz (.bool false)], [])) := by
 intro n
 induction n with
 | zero =>
   intro f i hf hn hi
   obtain ⟨f, rfl⟩ : ∃ m, f = m + 1 := ⟨f - 1, by omega⟩
   have e1 : decide ((i : Int) < (ks.length : Int)) = false := by simp; omega
   rw [L_ref05_Is_1_0_eq, List.drop_eq_nil_of_le (show ks.length ≤ i by omega)]
   simp only [List.length_map, e1, ifB_false, onL_some, keysOk]
 | succ n ih =>
   intro f i hf hn hi
   obtain ⟨f, rfl⟩ : ∃ m, f = m + 1 := ⟨f - 1, by omega⟩
   by_cases hl : i < ks.length
   case neg =>
     have e1 : decide ((i : Int) < (ks.length : Int)) = false := by simp; omega
     rw [L_ref05_Is_1_0_eq, List.drop_eq_nil_of_le (show ks.length ≤ i by omega)]
     simp only [List.length_map, e1, ifB_false, onL_some, keysOk]
   case pos =>
     have e1 : decide ((i : Int) < (ks.length : Int)) = true := by simp; omega
     have e2 : decide ((0 : Int) ≤ (i : Int)) = true := by simp
     obtain ⟨l, ht⟩ := text_ok ks hks hlk (List.getElem_mem hl)
     have hw : IntKind.wrap .i64 ((i : Int) + 1) = ((i + 1 : Nat) : Int) := by rw [wrap64 (by omega) (by omega)]; omega
     have h2 := ih f (i + 1) (by omega) (by omega) (by omega)
     have hp : prevK ks (i + 1) = some ks[i] := by simp [prevK, hl]
     rw [hp] at h2
     rw [L_ref05_Is_1_0_eq, drop_cons hl]
     simp only [keysOk]
     cases htx : textB ks[i] with
     | false =>
       rw [htx] at ht
       simp only [List.length_map, e1, e2, ifB_true, Bool.and_true, when_true', Int.toNat_natCast, List.getD_eq_getElem?_getD, List.getElem?_map, List.getElem?_eq_getElem hl, Option.map_some, Option.getD_some, fits_str, isStr_str, toStr_str, ht, onR_some, List.isEmpty_nil, allF_cons, allF_nil, List.getElem?_cons_succ, List.getElem?_cons_zero, toF_fz, isBool_bool, toBool_bool, Bool.not_false, onL_some, X_ref05_Is_1_0_eq, Bool.false_and]
     | true =>
       rw [htx] at ht
       simp only [List.length_map, e1, e2, ifB_true, Bool.and_true, when_true', Int.toNat_natCast, List.getD_eq_getElem?_getD, List.getElem?_map, List.getElem?_eq_getElem hl, Option.map_some, Option.getD_some, fits_str, isStr_str, toStr_str, ht, onR_some, List.isEmpty_nil, allF_cons, allF_nil, List.getElem?_cons_succ, List.getElem?_cons_zero, toF_fz, isBool_bool, toBool_bool, Bool.not_true, ifB_false, hw, Bool.true_and]
       cases i with
       | zero =>
         have e3 : decide (((0 : Nat) : Int) > 0) = false := rfl
         simp only [e3, ifB_false, prevK, Bool.true_and]
         exact h2
       | succ m =>
         have e3 : decide (((m + 1 : Nat) : Int) > 0) = true := by first | (simp; done) | (simp; omega)
         have hw2 : IntKind.wrap .i64 (((m + 1 : Nat) : Int) - 1) = (m : Int) := by rw [wrap64 (by omega) (by omega)]; omega
         have e4 : decide ((0 : Int) ≤ (m : Int)) = true := by simp
         have e5 : decide ((m : Int) < (ks.length : Int)) = true := by simp; omega
         have hm : m < ks.length := by omega
         have hpm : prevK ks (m + 1) = some ks[m] := by simp [prevK, hm]
         rw [hpm]
         simp only [e3, ifB_true, hw2, e4, e5, Bool.and_true, when_true', Int.toNat_natCast, List.getElem?_eq_getElem hm, Option.map_some, Option.getD_some, fits_str, isStr_str, toStr_str]
         have hle : (Op.bytesLess ks[m + 1].toList ks[m].toList || ks[m + 1].toList == ks[m].toList) = leB ks[m + 1] ks[m] := rfl
         rw [hle]
         cases leB ks[m + 1] ks[m] with
         | true => simp only [ifB_true, onL_some, X_ref05_Is_1_0_eq, Bool.not_true, Bool.false_and]
         | false => simp only [ifB_false, Bool.not_false, Bool.true_and]; exact h2
end
inductive JV.Short : JV → Prop where
  | mk {k c s : Int} {t : ByteArray} {is : List JV} {ks : List ByteArray} (ht : t.size ≤ 8796093022208) (hs : ∀ s ∈ ks, s.size ≤ 8796093022208) (h : ∀ v ∈ is, v.Short) : (JV.mk k c s t is ks).Short
theorem is_ok {v : JV} (hv : v.Sm) : v.Short → ∀ d : Int, Rt0 N_ref05_Is [.fz v.enc, .fz (.int .i64 d)] = some ([.fz (.bool (isR v d))], []) := by
 induction hv with
 | @mk k c s t is ks hi hk hsm ih =>
  intro hsh d
  cases hsh with
  | mk ht hs hsh =>
  have items : d ≤ 32 → ∀ (n f i : Nat), n < f → is.length ≤ i + n → onL (L_ref05_Is_2_0 Rt0 (is.length + ks.length + 2) true f d i k c s t (is.map JV.enc) (ks.map .str)) (K_ref05_Is_2 Rt0 (is.length + ks.length + 2) true) = some ([.fz (.bool (isRs (is.drop i) (IntKind.wrap .i64 (d + 1))))], []) := by
   intro hd n
   induction n with
   | zero =>
    intro f i hf hn
    obtain ⟨f, rfl⟩ : ∃ m, f = m + 1 := ⟨f - 1, by omega⟩
    have e1 : decide ((i : Int) < (is.length : Int)) = false := by simp; omega
    rw [L_ref05_Is_2_0_eq, List.drop_eq_nil_of_le (show is.length ≤ i by omega)]
    simp only [List.length_map, e1, ifB_false, onL_some, X_ref05_Is_2_1_eq, isRs]
   | succ n jh =>
    intro f i hf hn
    obtain ⟨f, rfl⟩ : ∃ m, f = m + 1 := ⟨f - 1, by omega⟩
    by_cases hl : i < is.length
    case neg =>
     have e1 : decide ((i : Int) < (is.length : Int)) = false := by simp; omega
     rw [L_ref05_Is_2_0_eq, List.drop_eq_nil_of_le (show is.length ≤ i by omega)]
     simp only [List.length_map, e1, ifB_false, onL_some, X_ref05_Is_2_1_eq, isRs]
    case pos =>
     have e1 : decide ((i : Int) < (is.length : Int)) = true := by simp; omega
     have e2 : decide ((0 : Int) ≤ (i : Int)) = true := by simp
     have hm := List.getElem_mem hl
     have h1 := ih is[i] hm (hsh _ hm) (IntKind.wrap .i64 (d + 1))
     have h2 := jh f (i + 1) (by omega) (by omega)
     have hw : IntKind.wrap .i64 ((i : Int) + 1) = ((i + 1 : Nat) : Int) := by rw [wrap64 (by omega) (by omega)]; omega
     have hk0 : FV.cell is[i].enc 0 = .int .i64 is[i].k := by obtain ⟨k0, _, _, _, _, _⟩ := is[i]; rw [JV.enc_mk]; rfl
     have hag : FV.isAg 6 is[i].enc = true := is[i].enc_fits
     rw [L_ref05_Is_2_0_eq, drop_cons hl, isRs]
     simp only [List.length_map, e1, e2, ifB_true, Bool.and_true, when_true', Int.toNat_natCast, List.getD_eq_getElem?_getD, List.getElem?_map, List.getElem?_eq_getElem hl, Option.map_some, Option.getD_some, JV.enc_fits, hag, hk0, isInt_int, toInt_int]
     cases h7 : (is[i].k == 7) with
     | true => simp only [ifB_true, onL_some, X_ref05_Is_2_0_eq, Bool.not_true, Bool.false_and]
     | false =>
      simp only [ifB_false, h1, onR_some, List.isEmpty_nil, allF_cons, allF_nil, Bool.and_true, when_true', List.getElem?_cons_zero, Option.getD_some, toF_fz, isBool_bool, toBool_bool, hw, Bool.not_false, Bool.true_and]
      cases isR is[i] (IntKind.wrap .i64 (d + 1)) with
      | true => simp only [Bool.not_true, ifB_false, Bool.true_and]; exact h2
      | false => simp only [Bool.not_false, ifB_true, onL_some, X_ref05_Is_2_0_eq, Bool.false_and]
  have hz := zero_ok k c s t is ks
  obtain ⟨lt, htx⟩ : ∃ l, Rt0 N_ref03_Signs [.fz (.str t)] = some ([.fz (.sl l), .fz (.bool (textB t))], []) := by
   rw [signs_ok t ht]
   unfold textB
   cases signsL t.data.toList with
   | none => exact ⟨_, rfl⟩
   | some cs => exact ⟨_, rfl⟩
  refine rt_call0 A_ref05_Is rfl rfl (is.length + ks.length + 2) ?_
  rw [JV.enc_mk, E_ref05_Is, isR]
  cases h1 : decide (k < 0) with
  | true => simp only [ifB_true, Bool.not_true, Bool.false_and]
  | false =>
  cases h2 : decide (k > 7) with
  | true => simp only [ifB_true, ifB_false, Bool.not_true, Bool.not_false, Bool.false_and, Bool.and_false]
  | false =>
  simp only [ifB_false, hz, onR_some, List.isEmpty_nil, allF_cons, allF_nil, Bool.and_true, when_true', List.getD_cons_zero, toF_fz, isBool_bool, toBool_bool, Bool.not_false, Bool.true_and]
  cases h3 : zeroB k c s t is.length ks.length with
  | false => simp only [Bool.not_false, ifB_true, Bool.false_and]
  | true =>
  simp only [Bool.not_true, ifB_false, Bool.true_and]
  by_cases hd : d > 32
  ·have h4 : decide (d > 32) = true := by simpa using hd
   simp only [h4, ifB_true, Bool.not_true, Bool.false_and]
  have h4 : decide (d > 32) = false := by simpa using hd
  have hJ3 : J_ref05_Is_3_0 Rt0 (is.length + ks.length + 2) true d k c s t (is.map JV.enc) (ks.map .str) = some ([.fz (.bool (keysOk none ks && isRs is (IntKind.wrap .i64 (d + 1))))], []) := by
   rw [J_ref05_Is_3_0_eq]
   have := is_keys d k c s t is ks hs hk (is.length + ks.length + 2) ks.length (is.length + ks.length + 2) 0 (by omega) (by omega) (by omega)
   rw [show ((0 : Nat) : Int) = 0 from rfl, List.drop_zero] at this
   rw [this]
   have h2 := items (by omega) is.length (is.length + ks.length + 2) 0 (by omega) (by omega)
   rw [show ((0 : Nat) : Int) = 0 from rfl, List.drop_zero] at h2
   cases hko : keysOk none ks with
   | true => simp only [prevK, hko, X_ref05_Is_1_1_eq, h2, Bool.true_and]
   | false => simp only [prevK, hko, Bool.false_and]
  have hN4 := num4_ok c s
  simp only [h4, ifB_false, Bool.not_false, Bool.true_and, jump_true, J_ref05_Is_4_0_eq, htx, onR_some, List.isEmpty_nil, allF_cons, allF_nil, Bool.and_true, when_true', List.getD_cons_zero, List.getD_cons_succ, toF_fz, isBool_bool, toBool_bool, hN4, hJ3, List.length_map]
  have hw5 : IntKind.wrap .i64 (d + 1) = IntKind.wrap .i64 (d + 1) := rfl
  cases textB t with
  | false => simp only [Bool.not_false, ifB_true, Bool.false_and]
  | true =>
  simp only [Bool.not_true, ifB_false, Bool.true_and]
  have tail : ∀ b : Bool, (ifB (k == 6) (ifB ((ks.length : Int) != (is.length : Int)) (some ([TV.fz (FV.bool false)], ([] : List LV))) (some ([TV.fz (FV.bool (keysOk none ks && isRs is (IntKind.wrap .i64 (d + 1))))], []))) (some ([TV.fz (FV.bool (keysOk none ks && isRs is (IntKind.wrap .i64 (d + 1))))], []))) = some ([.fz (.bool ((!(k == 6) || !((ks.length : Int) != is.length)) && (keysOk none ks && isRs is (IntKind.wrap .i64 (d + 1)))))], []) := fun _ => by
   cases (k == 6) <;> cases ((ks.length : Int) != (is.length : Int)) <;> exact Eq.refl _
  rw [tail true]
  cases (k == 3) with
  | false => simp only [ifB_false, Bool.not_false, Bool.true_or, Bool.true_and]
  | true =>
   cases num4B c s with
   | false => simp only [ifB_true, Bool.not_false, Bool.not_true, Bool.false_or, Bool.false_and]
   | true => simp only [ifB_true, ifB_false, Bool.not_true, Bool.false_or, Bool.true_and]
end Go.Ab
end
section
namespace Go.Ab
theorem numIs_ok (c s : Int) : Rt0 N_num_Is [.fz (.ag [.int .i64 c, .int .i64 s])] = some ([.fz (.bool (num4B c s))], []) := by
 refine rt_call0 A_num_Is rfl rfl 0 ?_
 rw [E_num_Is]
 simp only [jump_true, J_num_Is_1_0_eq]
 unfold num4B
 generalize decide (s < 0) = b1
 generalize decide (s > 9) = b2
 generalize decide (c ≥ 1000000000000000) = b3
 generalize decide (c ≤ (-1000000000000000)) = b4
 generalize (s == 0) = b5
 cases b1 <;> cases b2 <;> cases b3 <;> cases b4 <;> cases b5 <;> first | exact Eq.refl _ | simp
theorem num4_facts {c s : Int} (h : num4B c s = true) : 0 ≤ s ∧ s ≤ 9 ∧ c < 1000000000000000 ∧ -1000000000000000 < c := by
 unfold num4B at h
 simp only [Bool.and_eq_true, Bool.not_eq_true', decide_eq_false_iff_not] at h
 omega
theorem pow_ok (s : Nat) (hs : s ≤ 9) : Rt0 N_num_pow [.fz (.int .i64 s)] = some ([.fz (.int .i64 ((10 ^ s : Nat) : Int))], []) := by
 have loop : ∀ (j i : Nat), i + j = s → L_num_pow_1_0 Rt0 (s + 1) true (j + 1) ((10 ^ i : Nat) : Int) s i = some (.exit 0, X_num_pow_1_0 ((10 ^ s : Nat) : Int)) := by
  intro j
  induction j with
  | zero =>
   intro i hij
   rw [L_num_pow_1_0_eq, decide_eq_false (by omega), ifB_false, show i = s by omega]
  | succ j ih =>
   intro i hij
   have hlt : (10 ^ i : Nat) ≤ 10 ^ 8 := Nat.pow_le_pow_right (by omega) (by omega)
   have hw : IntKind.wrap .i64 (((10 ^ i : Nat) : Int) * 10) = ((10 ^ (i + 1) : Nat) : Int) := by
    rw [Nat.pow_succ]
    generalize 10 ^ i = p at hlt ⊢
    rw [wrap64 (by omega) (by omega)]
    push_cast
    rfl
   have hw2 : IntKind.wrap .i64 ((i : Int) + 1) = ((i + 1 : Nat) : Int) := by rw [wrap64 (by omega) (by omega)]; push_cast; rfl
   rw [L_num_pow_1_0_eq, decide_eq_true (by omega), ifB_true, hw, hw2]
   exact ih (i + 1) (by omega)
 refine rt_call0 A_num_pow rfl rfl (s + 1) ?_
 rw [E_num_pow]
 have h := loop s 0 (by omega)
 simp only [Nat.pow_zero, Int.natCast_one, Int.natCast_zero] at h
 rw [h, onL_some, X_num_pow_1_0_eq]
def u8s (l : List Nat) : List FV := l.map fun (n : Nat) => FV.int .u8 (n : Int)
theorem u8s_fits (l : List Nat) : (u8s l).all (FV.fits 1 false) = true := by
 unfold u8s
 rw [List.all_map, List.all_eq_true]
 intro x _
 rfl
theorem u8s_ints (l : List Nat) : (u8s l).all (FV.isInt .u8) = true := by
 unfold u8s
 rw [List.all_map, List.all_eq_true]
 intro x _
 rfl
theorem u8s_back (l : List Nat) : (u8s l).map (fun e => UInt8.ofNat (FV.toInt e).toNat) = l.map UInt8.ofNat := by
 unfold u8s
 rw [List.map_map]
 rfl
theorem dig_at (n : Nat) : (Array.getD (#[48, 49, 50, 51, 52, 53, 54, 55, 56, 57] : Array UInt8) (n % 10) 0).toNat = 48 + n % 10 := by
 have : n % 10 < 10 := Nat.mod_lt _ (by omega)
 generalize n % 10 = k at this
 match k, this with
 | 0, _ => rfl
 | 1, _ => rfl
 | 2, _ => rfl
 | 3, _ => rfl
 | 4, _ => rfl
 | 5, _ => rfl
 | 6, _ => rfl
 | 7, _ => rfl
 | 8, _ => rfl
 | 9, _ => rfl
theorem digits_loop (K : Nat) : ∀ (n j i : Nat) (bs : List Nat), n < 1000000000000000 → bs.length = 20 → (dg n).length ≤ i → (dg n).length ≤ j → i ≤ 20 →
   L_num_digits_1_0 Rt0 K true j n i (.ag (u8s bs)) = some (.ret, X_num_digits_1_0 (⟨(dg n ++ (bs.drop i).map UInt8.ofNat).toArray⟩ : ByteArray)) := by
 intro n
 induction n using Nat.strongRecOn with
 | ind n ih =>
   intro j i bs hn hbl hi hj hi20
   have hp := dg_len_pos n
   obtain ⟨j, rfl⟩ : ∃ m, j = m + 1 := ⟨j - 1, by omega⟩
   obtain ⟨i, rfl⟩ : ∃ m, i = m + 1 := ⟨i - 1, by omega⟩
   have hm : Int.tmod (n : Int) 10 = ((n % 10 : Nat) : Int) := by rw [Int.tmod_eq_emod_of_nonneg (by omega)]; rfl
   have hd : Int.tdiv (n : Int) 10 = ((n / 10 : Nat) : Int) := by rw [Int.tdiv_eq_ediv_of_nonneg (by omega)]; rfl
   have hw : IntKind.wrap .i64 (((i + 1 : Nat) : Int) - 1) = (i : Int) := by rw [wrap64 (by omega) (by omega)]; omega
   have hw2 : IntKind.wrap .i64 ((n / 10 : Nat) : Int) = ((n / 10 : Nat) : Int) := wrap64 (by omega) (by omega)
   have hlen : (u8s bs).length = 20 := by simp [u8s, hbl]
   have hset : (u8s bs).set i (.int .u8 ((48 + n % 10 : Nat) : Int)) = u8s (bs.set i (48 + n % 10)) := by simp [u8s, List.map_set]
   have hlt : Nat.blt (0 + i * 1) 20 = true := Nat.ble_eq_true_of_le (by omega)
   have hsz : (ByteArray.size (⟨#[48, 49, 50, 51, 52, 53, 54, 55, 56, 57]⟩ : ByteArray) : Int) = 10 := rfl
   have hdl : (u8s (bs.set i (48 + n % 10))).drop i = u8s ((bs.set i (48 + n % 10)).drop i) := by simp [u8s]
   have hds : (bs.set i (48 + n % 10)).drop i = (48 + n % 10) :: bs.drop (i + 1) := by
     rw [List.drop_eq_getElem_cons (by simp; omega), List.getElem_set_self, List.drop_set_of_lt (by omega)]
   have e20 : FV.isAg 20 (.ag (u8s bs)) = true := by simp [FV.isAg, hlen]
   rw [L_num_digits_1_0_eq]
   simp only [hm, hd, hw, hw2, hsz, Int.toNat_natCast, dig_at, toAg_ag, Nat.mul_one, Nat.zero_add, hset, u8s_fits, hdl, u8s_ints, u8s_back, hds, decide_eq_true (show (0 : Int) ≤ ((n % 10 : Nat) : Int) by omega), decide_eq_true (show ((n % 10 : Nat) : Int) < 10 by omega), decide_eq_true (show (0 : Int) ≤ (i : Int) by omega), decide_eq_true (show (i : Int) < 20 by omega), decide_eq_true (show (i : Int) ≤ 20 by omega), Bool.and_true, when_true', e20, show Nat.blt i 20 = true from Nat.ble_eq_true_of_le (by omega)]
   by_cases hz : n / 10 = 0
   · have hdg : dg n = [dc n] := by rw [dg, if_pos hz]
     have hb : (((n / 10 : Nat) : Int) == 0) = true := by rw [hz]; rfl
     rw [hb, ifB_true, hdg]
     rfl
   · have hdg : dg n = dg (n / 10) ++ [dc n] := by rw [dg, if_neg hz]
     have hb : (((n / 10 : Nat) : Int) == 0) = false := by
       rw [beq_eq_false_iff_ne]
       intro e
       exact hz (by exact_mod_cast e)
     rw [hdg] at hi hj
     simp only [List.length_append, List.length_cons, List.length_nil] at hi hj
     rw [hb, ifB_false, ih (n / 10) (by omega) j i _ (by omega) (by simp [hbl]) (by omega) (by omega) (by omega), hds, hdg, List.append_assoc]
     rfl
theorem digits_ok (n : Nat) (hn : n < 1000000000000000) : Rt0 N_num_digits [.fz (.int .i64 n)] = some ([.fz (.str ⟨(dg n).toArray⟩)], []) := by
 refine rt_call0 A_num_digits rfl rfl 20 ?_
 have hl := dg_len_le 14 n (by omega)
 have h := digits_loop 20 n 20 20 (List.replicate 20 0) hn (by simp) (by omega) (by omega) (by omega)
 rw [E_num_digits]
 have e : u8s (List.replicate 20 0) = [.int .u8 0, .int .u8 0, .int .u8 0, .int .u8 0, .int .u8 0, .int .u8 0, .int .u8 0, .int .u8 0, .int .u8 0, .int .u8 0, .int .u8 0, .int .u8 0, .int .u8 0, .int .u8 0, .int .u8 0, .int .u8 0, .int .u8 0, .int .u8 0, .int .u8 0, .int .u8 0] := rfl
 rw [e] at h
 have h20 : ((20 : Nat) : Int) = 20 := rfl
 rw [h20] at h
 rw [h, onL_some, X_num_digits_1_0_eq]
 simp
theorem of_loop (K : Nat) (neg : Bool) : ∀ (a j : Nat) (c : Int) (acc : List Int), c.natAbs = a → -1000000000000000 < c → c < 1000000000000000 → (lD a).length < j → acc.length ≤ 100 → (lD a).length + acc.length ≤ 100 →
    L_ref04_Of_1_1 Rt0 K true j c false neg (acc.map (.int .i64)) = some (.exit 0, X_ref04_Of_1_1 false neg ((acc ++ lD a).map (.int .i64))) := by
  intro a
  induction a using Nat.strongRecOn with
  | ind a ih =>
    intro j c acc hc h1 h2 hj ha hal
    obtain ⟨j, rfl⟩ : ∃ m, j = m + 1 := ⟨j - 1, by omega⟩
    rw [L_ref04_Of_1_1_eq]
    by_cases hz : c = 0
    · subst hz
      have : a = 0 := by simpa using hc.symm
      subst this
      rw [show ((0 : Int) != 0) = false from rfl, ifB_false, lD_zero, List.append_nil]
    · have ha0 : a ≠ 0 := by omega
      rw [show (c != 0) = true from bne_iff_ne.2 hz, ifB_true]
      rw [lD_pos ha0] at hj hal ⊢
      simp only [List.length_cons] at hj hal
      have hdiv : (Int.tdiv c 10).natAbs = a / 10 := by rw [Int.natAbs_tdiv, hc]; rfl
      have hmod : (Int.tmod c 10).natAbs = a % 10 := by rw [Int.natAbs_tmod, hc]; rfl
      have hw : IntKind.wrap .i64 (Int.tdiv c 10) = Int.tdiv c 10 := wrap64 (by omega) (by omega)
      have hroom : (decide (((acc.map (FV.int .i64)).length + [FV.int .i64 ((a % 10 : Nat) : Int)].length) * 8 ≤ roomy) && decide ((acc.map (FV.int .i64)).length + [FV.int .i64 ((a % 10 : Nat) : Int)].length ≤ roomy)) = true := by
        simp only [List.length_map, List.length_cons, List.length_nil, Bool.and_eq_true, decide_eq_true_eq, roomy]
        omega
      have hih := ih (a / 10) (by omega) j (Int.tdiv c 10) (acc ++ [((a % 10 : Nat) : Int)]) hdiv (by omega) (by omega) (by omega) (by simp; omega) (by simp; omega)
      rw [List.map_append, List.map_singleton, List.append_assoc, List.singleton_append] at hih
      by_cases hneg : Int.tmod c 10 < 0
      · have hm : IntKind.wrap .i64 (0 - Int.tmod c 10) = ((a % 10 : Nat) : Int) := by rw [wrap64 (by omega) (by omega)]; omega
        rw [decide_eq_true hneg, ifB_true, jump_true, J_ref04_Of_1_1_eq, hm, hw, hroom, when_true', hih]
      · have hm : Int.tmod c 10 = ((a % 10 : Nat) : Int) := by omega
        rw [decide_eq_false hneg, ifB_false, jump_true, J_ref04_Of_1_1_eq, hm, hw, hroom, when_true', hih]
theorem lD_len_le : ∀ (k n : Nat), n < 10 ^ k → (lD n).length ≤ k
 | 0, n, h => by
  have : n = 0 := by omega
  subst this; rw [lD_zero]; simp
 | k + 1, n, h => by
  by_cases h0 : n = 0
  ·subst h0; rw [lD_zero]; simp
  ·rw [lD_pos h0]
   have := lD_len_le k (n / 10) (by rw [Nat.div_lt_iff_lt_mul (by omega)]; rw [Nat.pow_succ] at h; exact h)
   simp only [List.length_cons]; omega
theorem of04_ok (c : Int) (h1 : -1000000000000000 < c) (h2 : c < 1000000000000000) : Rt0 N_ref04_Of [.fz (.int .i64 c)] = some ([.fz (.ag [.bool (decide (c < 0)), .sl ((lD c.natAbs).map (.int .i64))])], []) := by
 refine rt_call0 A_ref04_Of rfl rfl 20 ?_
 rw [E_ref04_Of]
 have hl := lD_len_le 15 c.natAbs (by omega)
 by_cases hz : c = 0
 ·subst hz
  rw [show L_ref04_Of_1_0 Rt0 20 true 20 0 false (decide ((0 : Int) < 0)) = _ from L_ref04_Of_1_0_eq Rt0 20 true 19 0 false (decide ((0 : Int) < 0))]
  rw [show ((0 : Int) != 0) = false from rfl, ifB_false, onL_some, X_ref04_Of_1_0_eq]
  rw [show (0 : Int).natAbs = 0 from rfl, lD_zero]
  rfl
 ·have ha0 : c.natAbs ≠ 0 := by omega
  rw [show L_ref04_Of_1_0 Rt0 20 true 20 c false (decide (c < 0)) = _ from L_ref04_Of_1_0_eq Rt0 20 true 19 c false (decide (c < 0))]
  rw [show (c != 0) = true from bne_iff_ne.2 hz, ifB_true]
  rw [lD_pos ha0] at hl ⊢
  simp only [List.length_cons] at hl
  have hdiv : (Int.tdiv c 10).natAbs = c.natAbs / 10 := by rw [Int.natAbs_tdiv]; rfl
  have hmod : (Int.tmod c 10).natAbs = c.natAbs % 10 := by rw [Int.natAbs_tmod]; rfl
  have hw : IntKind.wrap .i64 (Int.tdiv c 10) = Int.tdiv c 10 := wrap64 (by omega) (by omega)
  have hroom : ∀ x : Int, (decide (((0 : Nat) + [FV.int .i64 x].length) * 8 ≤ roomy) && decide ((0 : Nat) + [FV.int .i64 x].length ≤ roomy)) = true := fun _ => rfl
  have hih := of_loop 20 (decide (c < 0)) (c.natAbs / 10) 19 (Int.tdiv c 10) [((c.natAbs % 10 : Nat) : Int)] hdiv (by omega) (by omega) (by omega) (by simp) (by simp; omega)
  rw [List.map_singleton, List.singleton_append] at hih
  by_cases hneg : Int.tmod c 10 < 0
  ·have hm : IntKind.wrap .i64 (0 - Int.tmod c 10) = ((c.natAbs % 10 : Nat) : Int) := by rw [wrap64 (by omega) (by omega)]; omega
   rw [decide_eq_true hneg, ifB_true, jump_true, J_ref04_Of_1_0_eq, hm, hw, hroom, when_true', hih, onL_some, X_ref04_Of_1_1_eq]
  ·have hm : Int.tmod c 10 = ((c.natAbs % 10 : Nat) : Int) := by omega
   rw [decide_eq_false hneg, ifB_false, jump_true, J_ref04_Of_1_0_eq, hm, hw, hroom, when_true', hih, onL_some, X_ref04_Of_1_1_eq]
end Go.Ab
end
section
namespace Go.Ab
theorem qBapp (a b : List UInt8) : qB a ++ qB b = qB (a ++ b) := by
 unfold qB
 apply ByteArray.ext
 simp
theorem qBsz (l : List UInt8) : (qB l).size = l.length := rfl
theorem qLe {a b : List UInt8} (h : a.length + b.length ≤ 1000000000000000) : decide ((qB a).size + (qB b).size ≤ 2 ^ 62) = true := decide_eq_true (by rw [qBsz, qBsz]; omega)
theorem rT_len (a sc : Nat) : ∀ i, (rT a sc i).length ≤ 2 * i
 | 0 => by simp [rT]
 | i + 1 => by
  rw [rT]
  have := rT_len a sc i
  split <;> simp only [List.length_cons] <;> omega
theorem rdig (d : Nat) : ((⟨(List.map (fun e => UInt8.ofNat (FV.toInt e).toNat) [(FV.int .u8 (IntKind.wrap .u8 (IntKind.wrap .i64 (48 + ((d % 10 : Nat) : Int)))))]).toArray⟩ : ByteArray)) = qB [dc d] := by
 have h : d % 10 < 10 := Nat.mod_lt _ (by omega)
 unfold dc
 generalize d % 10 = k at h ⊢
 match k, h with
 | 0, _ => rfl
 | 1, _ => rfl
 | 2, _ => rfl
 | 3, _ => rfl
 | 4, _ => rfl
 | 5, _ => rfl
 | 6, _ => rfl
 | 7, _ => rfl
 | 8, _ => rfl
 | 9, _ => rfl
theorem rtext_loop (K a sc m : Nat) (c : Int) (b : Bool) (hm : m = max (lD a).length (sc + 1)) (hl : (lD a).length ≤ 15) (hs : sc ≤ 9) : ∀ (j i : Nat), i + j = m →
   L_ref04_Text_1_0 Rt0 K true (j + 1) (qB (rT a sc i)) i c sc (.ag [.bool b, .sl ((lD a).map (.int .i64))]) = some (.exit 0, X_ref04_Text_1_0 (qB (rT a sc m)) (.ag [.bool b, .sl ((lD a).map (.int .i64))])) := by
 intro j
 induction j with
 | zero =>
   intro i hij
   have : i = m := by omega
   subst this
   rw [L_ref04_Text_1_0_eq]
   simp only [isAg_ag, List.length_cons, List.length_nil, Nat.reduceAdd, beq_self_eq_true, when_true', cell_ag, List.getD_cons_succ, List.getD_cons_zero, isSl_sl, toSl_sl, List.length_map, decide_eq_false (show ¬ ((i : Int) < ((lD a).length : Int)) by omega), decide_eq_false (show ¬ ((i : Int) ≤ (sc : Int)) by omega), ifB_false]
 | succ j ih =>
   intro i hij
   have hrl := rT_len a sc i
   have hw : IntKind.wrap .i64 ((i : Int) + 1) = ((i + 1 : Nat) : Int) := by rw [wrap64 (by omega) (by omega)]; rfl
   have hih := ih (i + 1) (by omega)
   have h1 : J_ref04_Text_1_0 Rt0 K true (j + 1) (if i = sc ∧ 0 < i then qB (46 :: rT a sc i) else qB (rT a sc i)) i ((a / 10 ^ i % 10 : Nat) : Int) c sc (.ag [.bool b, .sl ((lD a).map (.int .i64))]) = some (.exit 0, X_ref04_Text_1_0 (qB (rT a sc m)) (.ag [.bool b, .sl ((lD a).map (.int .i64))])) := by
     rw [J_ref04_Text_1_0_eq, rdig]
     have hall : List.all [(FV.int .u8 (IntKind.wrap .u8 (IntKind.wrap .i64 (48 + ((a / 10 ^ i % 10 : Nat) : Int)))))] (FV.isInt .u8) = true := rfl
     rw [hall, when_true', hw]
     rw [rT] at hih
     split
     · rename_i hc
       rw [if_pos hc] at hih
       rw [qLe (by simp only [List.length_cons, List.length_nil]; omega), when_true', qBapp]
       exact hih
     · rename_i hc
       rw [if_neg hc] at hih
       rw [qLe (by simp only [List.length_cons, List.length_nil]; omega), when_true', qBapp]
       exact hih
   have h2 : J_ref04_Text_2_0 Rt0 K true (j + 1) (qB (rT a sc i)) i ((a / 10 ^ i % 10 : Nat) : Int) c sc (.ag [.bool b, .sl ((lD a).map (.int .i64))]) = some (.exit 0, X_ref04_Text_1_0 (qB (rT a sc m)) (.ag [.bool b, .sl ((lD a).map (.int .i64))])) := by
     rw [J_ref04_Text_2_0_eq]
     by_cases he : i = sc
     · rw [show ((i : Int) == (sc : Int)) = true by simp [he], ifB_true]
       by_cases h0 : 0 < i
       · rw [if_pos ⟨he, h0⟩] at h1
         rw [decide_eq_true (show (i : Int) > 0 by omega), ifB_true, show (⟨#[46]⟩ : ByteArray) = qB [46] from rfl, qLe (by simp only [List.length_cons, List.length_nil]; omega), when_true', jump_true, qBapp]
         exact h1
       · rw [if_neg (by omega)] at h1
         rw [decide_eq_false (show ¬ (i : Int) > 0 by omega), ifB_false, jump_true]
         exact h1
     · rw [if_neg (by omega)] at h1
       rw [show ((i : Int) == (sc : Int)) = false by rw [beq_eq_false_iff_ne]; omega, ifB_false, jump_true]
       exact h1
   have h3 : J_ref04_Text_4_0 Rt0 K true (j + 1) (qB (rT a sc i)) i c sc (.ag [.bool b, .sl ((lD a).map (.int .i64))]) = some (.exit 0, X_ref04_Text_1_0 (qB (rT a sc m)) (.ag [.bool b, .sl ((lD a).map (.int .i64))])) := by
     have hg := lD_get i a
     rw [J_ref04_Text_4_0_eq]
     simp only [isAg_ag, List.length_cons, List.length_nil, Nat.reduceAdd, beq_self_eq_true, when_true', cell_ag, List.getD_cons_succ, List.getD_cons_zero, isSl_sl, toSl_sl, List.length_map]
     by_cases hi : i < (lD a).length
     · have hgi : ((lD a).map (FV.int .i64)).getD i .nilp = .int .i64 ((a / 10 ^ i % 10 : Nat) : Int) := by
         have he : (lD a)[i] = ((a / 10 ^ i % 10 : Nat) : Int) := by rw [← hg, List.getD_eq_getElem?_getD, List.getElem?_eq_getElem hi]; rfl
         rw [List.getD_eq_getElem?_getD, List.getElem?_map, List.getElem?_eq_getElem hi, he]; rfl
       simp only [decide_eq_true (show (i : Int) < ((lD a).length : Int) by omega), decide_eq_true (show (0 : Int) ≤ (i : Int) by omega), ifB_true, Bool.and_true, when_true', Int.toNat_natCast, hgi, fits_int, isInt_int, toInt_int, jump_true]
       exact h2
     · have h0 : ((a / 10 ^ i % 10 : Nat) : Int) = 0 := by rw [← hg, List.getD_eq_getElem?_getD, List.getElem?_eq_none (by omega)]; rfl
       rw [h0] at h2
       rw [decide_eq_false (show ¬ ((i : Int) < ((lD a).length : Int)) by omega), ifB_false, jump_true]
       exact h2
   rw [L_ref04_Text_1_0_eq]
   simp only [isAg_ag, List.length_cons, List.length_nil, Nat.reduceAdd, beq_self_eq_true, when_true', cell_ag, List.getD_cons_succ, List.getD_cons_zero, isSl_sl, toSl_sl, List.length_map, jump_true, h3]
   by_cases hi : i < (lD a).length
   · rw [decide_eq_true (show (i : Int) < ((lD a).length : Int) by omega), ifB_true]
   · rw [decide_eq_false (show ¬ ((i : Int) < ((lD a).length : Int)) by omega), ifB_false, decide_eq_true (show (i : Int) ≤ (sc : Int) by omega), ifB_true]
theorem rnum_ok {c s : Int} (h : num4B c s = true) : Rt0 N_ref04_Text [.fz (.ag [.int .i64 c, .int .i64 s])] = some ([.fz (.str (qB (numT c s)))], []) := by
 obtain ⟨h1, h2, h3, h4⟩ := num4_facts h
 obtain ⟨sc, rfl⟩ : ∃ n : Nat, s = n := ⟨s.toNat, by omega⟩
 have hl := lD_len_le 15 c.natAbs (by omega)
 have hlp := rtext_loop (max (lD c.natAbs).length (sc + 1) + 1) c.natAbs sc _ c (decide (c < 0)) rfl hl (by omega) (max (lD c.natAbs).length (sc + 1)) 0 (by omega)
 have hrl := rT_len c.natAbs sc (max (lD c.natAbs).length (sc + 1))
 rw [show qB (rT c.natAbs sc 0) = (⟨#[]⟩ : ByteArray) from rfl, Int.natCast_zero] at hlp
 rw [rT_all] at hlp hrl
 refine rt_call0 A_ref04_Text rfl rfl (max (lD c.natAbs).length (sc + 1) + 1) ?_
 rw [E_ref04_Text, num4_ok, h, of04_ok c h4 h3]
 have hfit : FV.fits 2 true (.ag [.bool (decide (c < 0)), .sl ((lD c.natAbs).map (.int .i64))]) = true := rfl
 simp only [onR_some, List.isEmpty_nil, allF_cons, allF_nil, Bool.and_true, when_true', List.getD_cons_zero, toF_fz, isF_fz, isBool_bool, toBool_bool, Bool.not_true, ifB_false, hfit, hlp, onL_some, X_ref04_Text_1_0_eq, isAg_ag, List.length_cons, List.length_nil, Nat.reduceAdd, beq_self_eq_true, cell_ag]
 unfold numT
 rw [Int.toNat_natCast]
 by_cases hc : c < 0
 ·rw [decide_eq_true hc, ifB_true, if_pos hc, show (⟨#[45]⟩ : ByteArray) = qB [45] from rfl, qLe (by simp only [List.length_cons, List.length_nil]; omega), when_true', qBapp]
 ·rw [decide_eq_false hc, ifB_false, if_neg hc]
  rfl
end Go.Ab
end
section
namespace Go.Ab
theorem rep48 : ∀ n, Lib.repeatL [48] n = List.replicate n (48 : UInt8)
 | 0 => rfl
 | n + 1 => by
  have := rep48 n
  simp only [Lib.repeatL] at this ⊢
  first
  | rw [List.replicate_succ, this]; rfl
  | (simp [List.replicate_succ] at this ⊢; first | exact this | rw [this])
theorem pnum_ok {c s : Int} (h : num4B c s = true) : Rt1 N_num_Text [.fz (.ag [.int .i64 c, .int .i64 s])] = some ([.fz (.str (qB (numT c s)))], []) := by
 obtain ⟨h1, h2, h3, h4⟩ := num4_facts h
 obtain ⟨sc, rfl⟩ : ∃ n : Nat, s = n := ⟨s.toNat, by omega⟩
 have hp1 : 0 < 10 ^ sc := Nat.pow_pos (by omega)
 have hp2 : 10 ^ sc ≤ 10 ^ 9 := Nat.pow_le_pow_right (by omega) (by omega)
 have hI := lift01 (numIs_ok c sc)
 rw [h] at hI
 have hP := lift01 (pow_ok sc (by omega))
 have main : ∀ (pre : List UInt8) (a : Nat), a < 1000000000000000 → pre.length ≤ 1 → J_num_Text_1_0 Rt1 0 true (qB pre) a c sc = some ([.fz (.str (qB (pre ++ nBody a sc)))], []) := by
  intro pre a ha hpre
  have hd1 : a / 10 ^ sc < 1000000000000000 := Nat.lt_of_le_of_lt (Nat.div_le_self _ _) ha
  have hd2 : a % 10 ^ sc < 10 ^ sc := Nat.mod_lt _ hp1
  have hD1 := lift01 (digits_ok (a / 10 ^ sc) hd1)
  have hD2 := lift01 (digits_ok (a % 10 ^ sc) (by omega))
  have hl1 := dg_len_le 14 (a / 10 ^ sc) (by omega)
  have hl2 := dg_len_le 14 (a % 10 ^ sc) (by omega)
  have ht : Int.tdiv (a : Int) ((10 ^ sc : Nat) : Int) = ((a / 10 ^ sc : Nat) : Int) := by rw [Int.tdiv_eq_ediv_of_nonneg (by omega)]; rfl
  have htm : Int.tmod (a : Int) ((10 ^ sc : Nat) : Int) = ((a % 10 ^ sc : Nat) : Int) := by rw [Int.tmod_eq_emod_of_nonneg (by omega)]; rfl
  have hwq : ∀ q : Nat, q < 1000000000000000 → IntKind.wrap .i64 (q : Int) = (q : Int) := fun q hq => wrap64 (by omega) (by omega)
  have hw := hwq _ hd1
  have hne : (!decide (((10 ^ sc : Nat) : Int) = 0)) = true := by
   rw [decide_eq_false (by omega)]; rfl
  have e1 : (⟨(dg (a / 10 ^ sc)).toArray⟩ : ByteArray) = qB (dg (a / 10 ^ sc)) := rfl
  have e2 : (⟨(dg (a % 10 ^ sc)).toArray⟩ : ByteArray) = qB (dg (a % 10 ^ sc)) := rfl
  rw [e1] at hD1
  rw [e2] at hD2
  rw [J_num_Text_1_0_eq, hP]
  simp only [onR_some, List.isEmpty_nil, allF_cons, allF_nil, Bool.and_true, when_true', List.getD_cons_zero, isF_fz, toF_fz, isInt_int, toInt_int, isStr_str, toStr_str, ht, htm, hw, hne, hD1, hD2, qLe (show pre.length + (dg (a / 10 ^ sc)).length ≤ 1000000000000000 by omega), qBapp]
  unfold nBody
  by_cases h0 : sc = 0
  ·subst h0
   rw [show (((0 : Nat) : Int) == 0) = true from rfl, ifB_true, if_pos rfl, List.append_nil]
  ·have hlp : (dg (a % 10 ^ sc)).length ≤ sc := by
    obtain ⟨k, rfl⟩ : ∃ k, sc = k + 1 := ⟨sc - 1, by omega⟩
    exact dg_len_le k _ hd2
   have hpd : pd sc a = List.replicate (sc - (dg (a % 10 ^ sc)).length) 48 ++ dg (a % 10 ^ sc) := by
    rw [← pd_dg _ _ hlp, pd_mod]
   have hw3 : IntKind.wrap .i64 ((sc : Int) - ((qB (dg (a % 10 ^ sc))).size : Int)) = ((sc - (dg (a % 10 ^ sc)).length : Nat) : Int) := by
    rw [qBsz, wrap64 (by omega) (by omega)]; omega
   have hR : Rt1 N_strings_Repeat [.fz (.str (⟨#[48]⟩ : ByteArray)), .fz (.int .i64 ((sc - (dg (a % 10 ^ sc)).length : Nat) : Int))] = some ([.fz (.str (qB (List.replicate (sc - (dg (a % 10 ^ sc)).length) 48)))], []) := by
    refine rt_prim1 (af := A_repeat) (p := repeatP) rfl rfl ?_
    unfold repeatP
    have hs1 : ((⟨#[48]⟩ : ByteArray).size) = 1 := rfl
    simp only [hs1, Int.toNat_natCast, Nat.one_mul]
    rw [show Nat.ble (sc - (dg (a % 10 ^ sc)).length) 140737488355328 = true from Nat.ble_eq_true_of_le (by omega), show Nat.ble (sc - (dg (a % 10 ^ sc)).length) 9223372036854775807 = true from Nat.ble_eq_true_of_le (by omega), decide_eq_true (by omega), Bool.and_true, Bool.and_true, when_true']
    have := rep48 (sc - (dg (a % 10 ^ sc)).length)
    rw [this]
    rfl
   have hrl : (List.replicate (sc - (dg (a % 10 ^ sc)).length) (48 : UInt8)).length ≤ 9 := by simp; omega
   rw [show ((sc : Int) == 0) = false by rw [beq_eq_false_iff_ne]; omega, ifB_false, if_neg h0, hpd]
   simp only [hw3, hR, onR_some, List.isEmpty_nil, allF_cons, allF_nil, Bool.and_true, when_true', List.getD_cons_zero, isF_fz, toF_fz, isStr_str, toStr_str, show (⟨#[46]⟩ : ByteArray) = qB [46] from rfl]
   rw [qLe (by simp only [List.length_append, List.length_cons, List.length_nil]; omega), when_true', qBapp, qLe (by simp only [List.length_append, List.length_cons, List.length_nil]; omega), when_true', qBapp, qLe (by simp only [List.length_append, List.length_cons, List.length_nil]; omega), when_true', qBapp]
   simp only [List.append_assoc, List.singleton_append, List.cons_append, List.nil_append]
 refine rt_call1 A_num_Text rfl rfl 0 ?_
 rw [E_num_Text, hI]
 simp only [onR_some, List.isEmpty_nil, allF_cons, allF_nil, Bool.and_true, when_true', List.getD_cons_zero, isF_fz, toF_fz, isBool_bool, toBool_bool, Bool.not_true, ifB_false, jump_true]
 unfold numT
 by_cases hc : c < 0
 ·have hw : IntKind.wrap .i64 (0 - c) = ((c.natAbs : Nat) : Int) := by rw [wrap64 (by omega) (by omega)]; omega
  rw [decide_eq_true hc, ifB_true, if_pos hc, hw, show (⟨#[45]⟩ : ByteArray) = qB [45] from rfl, main [45] _ (by omega) (by simp), Int.toNat_natCast]
 ·have hw : c = ((c.natAbs : Nat) : Int) := by omega
  have hm := main [] c.natAbs (by omega) (by simp)
  rw [decide_eq_false hc, ifB_false, if_neg hc, show (⟨#[]⟩ : ByteArray) = qB [] from rfl, Int.toNat_natCast]
  rw [← hw] at hm
  exact hm
end Go.Ab
end
section
namespace Go.Ab
theorem sign_hex (e : Int) (h0 : 0 ≤ e) (h1 : e < 32) : Array.getD (⟨#[48, 49, 50, 51, 52, 53, 54, 55, 56, 57, 97, 98, 99, 100, 101, 102]⟩ : ByteArray).data (Int.toNat (IntKind.wrap .i64 (Int.tdiv e 16))) 0 = hexB (e / 16) ∧ Array.getD (⟨#[48, 49, 50, 51, 52, 53, 54, 55, 56, 57, 97, 98, 99, 100, 101, 102]⟩ : ByteArray).data (Int.toNat (Int.tmod e 16)) 0 = hexB (e % 16) ∧ (decide (0 ≤ (IntKind.wrap .i64 (Int.tdiv e 16))) && decide ((IntKind.wrap .i64 (Int.tdiv e 16)) < (ByteArray.size (⟨#[48, 49, 50, 51, 52, 53, 54, 55, 56, 57, 97, 98, 99, 100, 101, 102]⟩ : ByteArray) : Int))) = true ∧ (decide (0 ≤ (Int.tmod e 16)) && decide ((Int.tmod e 16) < (ByteArray.size (⟨#[48, 49, 50, 51, 52, 53, 54, 55, 56, 57, 97, 98, 99, 100, 101, 102]⟩ : ByteArray) : Int))) = true := by
 have h' : e = 0 ∨ e = 1 ∨ e = 2 ∨ e = 3 ∨ e = 4 ∨ e = 5 ∨ e = 6 ∨ e = 7 ∨ e = 8 ∨ e = 9 ∨ e = 10 ∨ e = 11 ∨ e = 12 ∨ e = 13 ∨ e = 14 ∨ e = 15 ∨ e = 16 ∨ e = 17 ∨ e = 18 ∨ e = 19 ∨ e = 20 ∨ e = 21 ∨ e = 22 ∨ e = 23 ∨ e = 24 ∨ e = 25 ∨ e = 26 ∨ e = 27 ∨ e = 28 ∨ e = 29 ∨ e = 30 ∨ e = 31 := by omega
 rcases h' with rfl | rfl | rfl | rfl | rfl | rfl | rfl | rfl | rfl | rfl | rfl | rfl | rfl | rfl | rfl | rfl | rfl | rfl | rfl | rfl | rfl | rfl | rfl | rfl | rfl | rfl | rfl | rfl | rfl | rfl | rfl | rfl
 all_goals exact ⟨rfl, rfl, rfl, rfl⟩
section
variable (l : List Int) (hl : l.length ≤ 1099511627776) (hf : ∀ c ∈ l, 0 ≤ c ∧ c ≤ 1114111 ∧ ¬ (55296 ≤ c ∧ c < 57344))
def hexS : ByteArray := ⟨#[48, 49, 50, 51, 52, 53, 54, 55, 56, 57, 97, 98, 99, 100, 101, 102]⟩
theorem rq_short (K n : Nat) (i : Nat) (hi : i ≤ 1099511627776) (c : Int) (f : List UInt8) (acc : List UInt8) (hne : f ≠ []) (hlen : acc.length + f.length ≤ 140737488355328) (a : List FV) :
   J_ref03_Quote_1_0 Rt0 K true n a hexS (i : Int) c (qB f) (cells acc) = L_ref03_Quote_1_0 Rt0 K true n a hexS ((i + 1 : Nat) : Int) (cells (acc ++ f)) := by
 have hb : (ByteArray.toList (qB f) == ByteArray.toList (⟨#[]⟩ : ByteArray)) = false := by
   rw [bytes_beq]
   refine decide_eq_false fun e => hne ?_
   have := congrArg (fun s : ByteArray => s.data.toList) e
   simpa [qB] using this
 have hw : IntKind.wrap .i64 ((i : Int) + 1) = ((i + 1 : Nat) : Int) := by rw [wrap64 (by omega) (by omega)]; simp
 have e : List.map (fun b => FV.int .u8 ((UInt8.toNat b : Nat) : Int)) (qB f).data.toList = cells f := rfl
 rw [J_ref03_Quote_1_0_eq, hb, Bool.not_false, ifB_true, e, cells_len, cells_len, room_ok hlen, when_true', hw, cells_app]
theorem rq_empty (K n : Nat) (i : Nat) (hi : i ≤ 1099511627776) (c : Int) (h0 : 0 ≤ c) (h1 : c ≤ 1114111) (h2 : ¬ (55296 ≤ c ∧ c < 57344)) (h3 : ¬ c = 34) (h4 : ¬ c = 92) (h5 : ¬ c = 8) (h6 : ¬ c = 9) (h7 : ¬ c = 10) (h8 : ¬ c = 12) (h9 : ¬ c = 13) (acc : List UInt8) (hlen : acc.length + 6 ≤ 140737488355328) (a : List FV) :
   J_ref03_Quote_1_0 Rt0 K true n a hexS (i : Int) c (⟨#[]⟩ : ByteArray) (cells acc) = L_ref03_Quote_1_0 Rt0 K true n a hexS ((i + 1 : Nat) : Int) (cells (acc ++ quoteB c)) := by
 have hw : IntKind.wrap .i64 ((i : Int) + 1) = ((i + 1 : Nat) : Int) := by rw [wrap64 (by omega) (by omega)]; simp
 rw [J_ref03_Quote_1_0_eq, bytes_beq, decide_eq_true rfl, Bool.not_true, ifB_false]
 unfold quoteB
 rw [if_neg h3, if_neg h4, if_neg h5, if_neg h6, if_neg h7, if_neg h8, if_neg h9]
 by_cases h : c < 32
 · obtain ⟨x1, x2, x3, x4⟩ := sign_hex c h0 h
   rw [decide_eq_true h, ifB_true, if_pos h]
   unfold hexS
   rw [x3, x4, when_true', when_true', x1, x2, hw]
   have e : [FV.int .u8 92, .int .u8 117, .int .u8 48, .int .u8 48, .int .u8 (((hexB (c / 16)).toNat : Nat) : Int), .int .u8 (((hexB (c % 16)).toNat : Nat) : Int)] = cells [92, 117, 48, 48, hexB (c / 16), hexB (c % 16)] := rfl
   rw [e, cells_len, cells_len, room_ok (by simpa using hlen), when_true', cells_app]
 · rw [decide_eq_false h, ifB_false, if_neg h, put3_ok h0 h1, put_cells h0 h1, enc_put h0 h1 h2]
   have hq : (toB (putB c)).length ≤ 4 := by rw [toB_len, putB_len]; repeat' split
                                             all_goals omega
   simp only [onR_some, List.isEmpty_nil, allF_cons, allF_nil, Bool.and_true, when_true', List.getD_cons_zero, isF_fz, toF_fz, isSl_sl, toSl_sl, cells_fits, cells_len, hw, cells_app]
   rw [room_ok (by omega), when_true']
include hl hf
theorem rq_loop (K : Nat) : ∀ (d i n : Nat) (acc : List UInt8), i + d = l.length → d < n → acc.length ≤ 6 * i + 1 →
   L_ref03_Quote_1_0 Rt0 K true n (l.map (.int .i64)) hexS (i : Int) (cells acc) = some (.exit 0, X_ref03_Quote_1_0 (cells (acc ++ (l.drop i).flatMap quoteB))) := by
 intro d
 induction d with
 | zero =>
   intro i n acc h1 h2 h3
   obtain ⟨n, rfl⟩ : ∃ q, n = q + 1 := ⟨n - 1, by omega⟩
   rw [L_ref03_Quote_1_0_eq, List.length_map, decide_eq_false (by omega), ifB_false, List.drop_eq_nil_of_le (by omega)]
   simp
 | succ d ih =>
   intro i n acc h1 h2 h3
   obtain ⟨n, rfl⟩ : ∃ q, n = q + 1 := ⟨n - 1, by omega⟩
   have hi : i < l.length := by omega
   obtain ⟨f0, f1, f2⟩ := hf _ (List.getElem_mem hi)
   rw [List.drop_eq_getElem_cons hi, List.flatMap_cons, ← List.append_assoc]
   have hql := quoteB_len l[i]
   rw [L_ref03_Quote_1_0_eq]
   simp only [decide_eq_true (show (i : Int) < (l.length : Int) by omega), ifB_true, List.length_map, decide_eq_true (show (0 : Int) ≤ (i : Int) by omega), Bool.and_true, when_true', Int.toNat_natCast, getD_intQ l hi, fits_int, isInt_int, toInt_int, beq_self_eq_true]
   have go : L_ref03_Quote_1_0 Rt0 K true n (l.map (.int .i64)) hexS ((i + 1 : Nat) : Int) (cells (acc ++ quoteB l[i])) = some (.exit 0, X_ref03_Quote_1_0 (cells (acc ++ quoteB l[i] ++ (l.drop (i + 1)).flatMap quoteB))) := ih (i + 1) n _ (by omega) (by omega) (by simp; omega)
   generalize l[i] = c at f0 f1 f2 go hql ⊢
   have spec : ∀ (v : Int) (f : List UInt8), quoteB v = f → f ≠ [] → f.length ≤ 6 → c = v → J_ref03_Quote_1_0 Rt0 K true n (l.map (.int .i64)) hexS (i : Int) c (qB f) (cells acc) = some (.exit 0, X_ref03_Quote_1_0 (cells (acc ++ quoteB c ++ (l.drop (i + 1)).flatMap quoteB))) := by
     rintro v f hv hne hfl rfl
     rw [rq_short K n i (by omega) c f acc hne (by omega), ← hv]
     exact go
   by_cases g1 : c = 34
   · rw [show (c == 34) = true by simpa using g1, ifB_true, jump_true]; exact spec 34 [92, 34] rfl (by simp) (by simp) g1
   · rw [show (c == 34) = false by simpa using g1, ifB_false]
     by_cases g2 : c = 92
     · rw [show (c == 92) = true by simpa using g2, ifB_true, jump_true]; exact spec 92 [92, 92] rfl (by simp) (by simp) g2
     · rw [show (c == 92) = false by simpa using g2, ifB_false]
       by_cases g3 : c = 8
       · rw [show (c == 8) = true by simpa using g3, ifB_true, jump_true]; exact spec 8 [92, 98] rfl (by simp) (by simp) g3
       · rw [show (c == 8) = false by simpa using g3, ifB_false]
         by_cases g4 : c = 9
         · rw [show (c == 9) = true by simpa using g4, ifB_true, jump_true]; exact spec 9 [92, 116] rfl (by simp) (by simp) g4
         · rw [show (c == 9) = false by simpa using g4, ifB_false]
           by_cases g5 : c = 10
           · rw [show (c == 10) = true by simpa using g5, ifB_true, jump_true]; exact spec 10 [92, 110] rfl (by simp) (by simp) g5
           · rw [show (c == 10) = false by simpa using g5, ifB_false]
             by_cases g6 : c = 12
             · rw [show (c == 12) = true by simpa using g6, ifB_true, jump_true]; exact spec 12 [92, 102] rfl (by simp) (by simp) g6
             · rw [show (c == 12) = false by simpa using g6, ifB_false]
               by_cases g7 : c = 13
               · rw [show (c == 13) = true by simpa using g7, ifB_true, jump_true]; exact spec 13 [92, 114] rfl (by simp) (by simp) g7
               · rw [show (c == 13) = false by simpa using g7, ifB_false, jump_true, rq_empty K n i (by omega) c f0 f1 f2 g1 g2 g3 g4 g5 g6 g7 acc (by omega)]
                 exact go
set_option maxRecDepth 20000 in
theorem rquote_ok : Rt0 N_ref03_Quote [.fz (.sl (l.map (.int .i64)))] = some ([.fz (.str (qB (34 :: (l.flatMap quoteB ++ [34]))))], []) := by
 refine rt_call0 A_ref03_Quote rfl rfl (l.length + 1) ?_
 have h := rq_loop l hl hf (l.length + 1) l.length 0 (l.length + 1) [34] (by omega) (by omega) (by simp)
 have hlen : ∀ m : List Int, (m.flatMap quoteB).length ≤ 6 * m.length := by
  intro m
  induction m with
  | nil => simp
  | cons c m ih => have := quoteB_len c; simp only [List.flatMap_cons, List.length_append, List.length_cons]; omega
 have hll := hlen l
 rw [E_ref03_Quote]
 have e0 : [FV.int .u8 34] = cells [34] := rfl
 rw [e0]
 simp only [Int.natCast_zero, List.drop_zero] at h
 refine (congrArg (fun x => onL x _) h).trans ?_
 rw [onL_some, X_ref03_Quote_1_0_eq, e0, cells_len, cells_len, room_ok (by rw [List.length_append]; simp only [List.length_cons, List.length_nil]; omega), when_true', ← cells_app, cells_all, when_true', cells_back]
 simp
end
end Go.Ab
end
section
namespace Go.Ab
def qT (s : ByteArray) : List UInt8 := match signsL s.data.toList with | some cs => 34 :: (cs.flatMap quoteB ++ [34]) | none => []
theorem quotes_len (m : List Int) : (m.flatMap quoteB).length ≤ 6 * m.length := by
 induction m with
 | nil => simp
 | cons c m ih => have := quoteB_len c; simp only [List.flatMap_cons, List.length_append, List.length_cons]; omega
theorem qT_len (s : ByteArray) : (qT s).length ≤ 6 * s.size + 2 := by
 unfold qT
 cases h : signsL s.data.toList with
 | none => simp
 | some cs =>
  have := (sgAt_start h).len (Nat.zero_le _)
  have := quotes_len cs
  simp only [List.length_cons, List.length_append, List.length_nil]
  omega
theorem qT_pos {s : ByteArray} (h : textB s = true) : 2 ≤ (qT s).length := by
 unfold textB at h
 unfold qT
 cases hs : signsL s.data.toList with
 | none => rw [hs] at h; cases h
 | some cs => simp only [List.length_cons, List.length_append, List.length_nil]; omega
theorem qFrom_sg {s : ByteArray} {pos : Nat} {cs : List Int} (h : SgAt s pos cs) : ∀ n, s.size ≤ pos + n → qFrom s n pos = cs.flatMap quoteB := by
 induction h with
 | nil pos h => intro n hn; rw [qFrom_end s n pos (by omega)]; rfl
 | cons pos k c cs hd h hk hk2 h0 h1 h2 hb r ih =>
  intro n hn
  obtain ⟨n, rfl⟩ : ∃ m, n = m + 1 := ⟨n - 1, by omega⟩
  simp only [qFrom]
  rw [if_pos h, hd, ih n (by omega), Int.toNat_of_nonneg h0]
  rfl
theorem quoted12_ok {s : ByteArray} (hs : s.size ≤ 1099511627776) (ht : textB s = true) : Rt1 N_show_quoted [.fz (.str s)] = some ([.fz (.str (qB (qT s)))], []) := by
 have hq : Rt1 N_utf_Quote [.fz (.str s)] = some ([.fz (.str (qB (qT s))), .fz (.int .i64 0)], []) := by
  refine rt_prim1 (af := A_quote) (p := quoteP) rfl rfl ?_
  unfold quoteP
  simp only
  rw [show Nat.ble s.size 1099511627776 = true from Nat.ble_eq_true_of_le hs, when_true']
  unfold textB at ht
  rw [ht, if_pos rfl]
  unfold qT
  cases hv : signsL s.data.toList with
  | none => rw [hv] at ht; cases ht
  | some cs =>
   have := qFrom_sg (sgAt_start hv) s.size (by omega)
   unfold qText
   rw [this]
 refine rt_call1 A_show_quoted rfl rfl 0 ?_
 rw [E_show_quoted, hq]
 simp only [onR_some, onL_some, List.isEmpty_nil, allF_cons, allF_nil, Bool.and_true, Bool.true_and, when_true', List.getD_cons_zero, List.getD_cons_succ, isF_fz, toF_fz, isBool_bool, toBool_bool, isInt_int, toInt_int, isStr_str, toStr_str, isSl_sl, toSl_sl, List.length_cons, List.length_nil, List.all_cons, List.all_nil, lisFz_fz, ltoFz_fz, beq_self_eq_true, jump_true, ifB_true, ifB_false, isF_pv, isPv_pv, toV_pv, isNil_nilp, isNil_pt, isPt_pt, toAg_ag, cell_ag, isAg_ag, fits_ag, Int.toNat_natCast, Bool.not_true, Bool.not_false, fits_int, fits_bool, fits_str, fits_sl]
theorem rquo_ok {s : ByteArray} (hs : s.size ≤ 134217728) (ht : textB s = true) : ∃ cs : List Int, Rt0 N_ref03_Signs [.fz (.str s)] = some ([.fz (.sl (cs.map (.int .i64))), .fz (.bool true)], []) ∧ Rt0 N_ref03_Quote [.fz (.sl (cs.map (.int .i64)))] = some ([.fz (.str (qB (qT s)))], []) := by
 have hsg := signs_ok s (by omega)
 unfold textB at ht
 unfold qT
 cases hv : signsL s.data.toList with
 | none => rw [hv] at ht; cases ht
 | some cs =>
  rw [hv] at hsg
  have hS := sgAt_start hv
  have hle := hS.len (Nat.zero_le _)
  exact ⟨cs, hsg, rquote_ok cs (by omega) hS.fine⟩
theorem rq12_ok {s : ByteArray} (hs : s.size ≤ 134217728) (ht : textB s = true) : Rt0 N_ref12_quote [.fz (.str s)] = some ([.fz (.str (qB (qT s)))], []) := by
 obtain ⟨cs, h1, h2⟩ := rquo_ok hs ht
 refine rt_call0 A_ref12_quote rfl rfl 0 ?_
 rw [E_ref12_quote, h1]
 simp only [onR_some, onL_some, List.isEmpty_nil, allF_cons, allF_nil, Bool.and_true, Bool.true_and, when_true', List.getD_cons_zero, List.getD_cons_succ, isF_fz, toF_fz, isBool_bool, toBool_bool, isInt_int, toInt_int, isStr_str, toStr_str, isSl_sl, toSl_sl, List.length_cons, List.length_nil, List.all_cons, List.all_nil, lisFz_fz, ltoFz_fz, beq_self_eq_true, jump_true, ifB_true, ifB_false, isF_pv, isPv_pv, toV_pv, isNil_nilp, isNil_pt, isPt_pt, toAg_ag, cell_ag, isAg_ag, fits_ag, Int.toNat_natCast, Bool.not_true, Bool.not_false, fits_int, fits_bool, fits_str, fits_sl, h2]
theorem rq6_ok {s : ByteArray} (hs : s.size ≤ 134217728) (ht : textB s = true) : Rt0 N_ref06_quote [.fz (.str s)] = some ([.fz (.str (qB (qT s)))], []) := by
 obtain ⟨cs, h1, h2⟩ := rquo_ok hs ht
 refine rt_call0 A_ref06_quote rfl rfl 0 ?_
 rw [E_ref06_quote, h1]
 simp only [onR_some, onL_some, List.isEmpty_nil, allF_cons, allF_nil, Bool.and_true, Bool.true_and, when_true', List.getD_cons_zero, List.getD_cons_succ, isF_fz, toF_fz, isBool_bool, toBool_bool, isInt_int, toInt_int, isStr_str, toStr_str, isSl_sl, toSl_sl, List.length_cons, List.length_nil, List.all_cons, List.all_nil, lisFz_fz, ltoFz_fz, beq_self_eq_true, jump_true, ifB_true, ifB_false, isF_pv, isPv_pv, toV_pv, isNil_nilp, isNil_pt, isPt_pt, toAg_ag, cell_ag, isAg_ag, fits_ag, Int.toNat_natCast, Bool.not_true, Bool.not_false, fits_int, fits_bool, fits_str, fits_sl, h2]
def mk35 (k : ByteArray) : Bool := match k.data.toList with | b :: _ => b == 35 | [] => false
def keyL (k : ByteArray) : ByteArray := if mk35 k = true then qB (35 :: k.data.toList) else k
theorem keyL_size (k : ByteArray) : (keyL k).size ≤ k.size + 1 := by
 unfold keyL
 split
 ·rw [qBsz, List.length_cons, Array.length_toList]; exact Nat.le_refl _
 ·omega
theorem signs35 {l : List UInt8} {cs : List Int} (h : signsL l = some cs) : signsL (35 :: l) = some (35 :: cs) := by
 unfold signsL at h ⊢
 rw [List.length_cons]
 have hs : sgn (35 :: l) = some (35, 1) := rfl
 simp only [signsN, hs, List.drop_succ_cons, List.drop_zero, h, Option.map_some]
theorem keyL_text {k : ByteArray} (h : textB k = true) : textB (keyL k) = true := by
 unfold keyL
 split
 ·unfold textB at h ⊢
  cases hs : signsL k.data.toList with
  | none => rw [hs] at h; cases h
  | some cs =>
   have := signs35 hs
   rw [show (qB (35 :: k.data.toList)).data.toList = 35 :: k.data.toList from rfl, this]
   rfl
 ·exact h
theorem pre35 (k : ByteArray) (hk : k.size ≤ 1099511627776) : Rt0 N_strings_HasPrefix [.fz (.str k), .fz (.str (⟨#[35]⟩ : ByteArray))] = some ([.fz (.bool (mk35 k))], []) := by
 have h : Rt0 N_internal_stringslite_HasPrefix [.fz (.str k), .fz (.str (⟨#[35]⟩ : ByteArray))] = some ([.fz (.bool (mk35 k))], []) := by
  refine rt_call0 A_internal_stringslite_HasPrefix rfl rfl 0 ?_
  rw [E_internal_stringslite_HasPrefix]
  have h1 : ((⟨#[35]⟩ : ByteArray).size : Int) = 1 := rfl
  obtain ⟨⟨l⟩⟩ := k
  have hsz : (({ data := ⟨l⟩ } : ByteArray).size) = l.length := rfl
  rw [h1, hsz]
  rw [hsz] at hk
  cases l with
  | nil => rfl
  | cons b r =>
   have d1 : decide ((((b :: r).length : Nat) : Int) ≥ 1) = true := decide_eq_true (by simp only [List.length_cons]; omega)
   have d2 : decide ((1 : Int) ≤ (((b :: r).length : Nat) : Int)) = true := decide_eq_true (by simp only [List.length_cons]; omega)
   rw [d1, ifB_true]
   have he : (({ data := ⟨b :: r⟩ } : ByteArray).extract 0 (Int.toNat 1)) = qB [b] := by
    apply ByteArray.ext
    rw [ByteArray.data_extract]
    apply Array.toList_inj.1
    simp [qB]
   rw [he]
   have hb : ((qB [b]).toList == (⟨#[35]⟩ : ByteArray).toList) = (b == 35) := by
    rw [show (⟨#[35]⟩ : ByteArray) = qB [35] from rfl]
    by_cases g : b = 35
    ·subst g; rw [beq_self_eq_true]; rfl
    ·have g2 : (b == 35) = false := by simpa using g
     rw [g2, bytes_beq]
     refine decide_eq_false fun e => g ?_
     have := congrArg (fun x : ByteArray => x.data.toList) e
     simpa [qB] using this
   rw [hb]
   rfl
 refine rt_call0 A_strings_HasPrefix rfl rfl 0 ?_
 rw [E_strings_HasPrefix, h]
 simp only [onR_some, onL_some, List.isEmpty_nil, allF_cons, allF_nil, Bool.and_true, Bool.true_and, when_true', List.getD_cons_zero, List.getD_cons_succ, isF_fz, toF_fz, isBool_bool, toBool_bool, isInt_int, toInt_int, isStr_str, toStr_str, isSl_sl, toSl_sl, List.length_cons, List.length_nil, List.all_cons, List.all_nil, lisFz_fz, ltoFz_fz, beq_self_eq_true, jump_true, ifB_true, ifB_false, isF_pv, isPv_pv, toV_pv, isNil_nilp, isNil_pt, isPt_pt, toAg_ag, cell_ag, isAg_ag, fits_ag, Int.toNat_natCast, Bool.not_true, Bool.not_false, fits_int, fits_bool, fits_str, fits_sl]
theorem key_ok (k : ByteArray) (hk : k.size ≤ 134217728) : Rt0 N_envelope_Key [.fz (.str k)] = some ([.fz (.str (keyL k))], []) := by
 refine rt_call0 A_envelope_Key rfl rfl 0 ?_
 rw [E_envelope_Key, pre35 k (by omega)]
 simp only [onR_some, onL_some, List.isEmpty_nil, allF_cons, allF_nil, Bool.and_true, Bool.true_and, when_true', List.getD_cons_zero, List.getD_cons_succ, isF_fz, toF_fz, isBool_bool, toBool_bool, isInt_int, toInt_int, isStr_str, toStr_str, isSl_sl, toSl_sl, List.length_cons, List.length_nil, List.all_cons, List.all_nil, lisFz_fz, ltoFz_fz, beq_self_eq_true, jump_true, ifB_true, ifB_false, isF_pv, isPv_pv, toV_pv, isNil_nilp, isNil_pt, isPt_pt, toAg_ag, cell_ag, isAg_ag, fits_ag, Int.toNat_natCast, Bool.not_true, Bool.not_false, fits_int, fits_bool, fits_str, fits_sl]
 unfold keyL
 cases mk35 k with
 | true =>
  have e : (⟨#[35]⟩ : ByteArray) ++ k = qB (35 :: k.data.toList) := by
   have := qBapp [35] k.data.toList
   rw [qB_self] at this
   exact this
  have hd : decide ((⟨#[35]⟩ : ByteArray).size + k.size ≤ 2 ^ 62) = true := decide_eq_true (by show 1 + k.size ≤ _; omega)
  rw [ifB_true, hd, when_true', e, if_pos rfl]
 | false => rw [ifB_false, if_neg (by simp)]
end Go.Ab
end
section
namespace Go.Ab
inductive ND where
 | mk (a d k c s : Int) (t : ByteArray) (is : List ND) (ks : List ByteArray)
 deriving Inhabited
mutual
def ND.enc : ND → FV
 | .mk a d k c s t is ks => .ag [.int .i64 a, .int .i64 d, .int .i64 k, .int .i64 c, .int .i64 s, .str t, .sl (ND.encs is), .sl (ks.map .str)]
def ND.encs : List ND → List FV
 | [] => []
 | v :: r => v.enc :: ND.encs r
end
theorem ND.encs_eq : ∀ l : List ND, ND.encs l = l.map ND.enc
 | [] => by simp [ND.encs]
 | v :: r => by simp [ND.encs, ND.encs_eq r]
theorem ND.enc_mk (a d k c s : Int) (t : ByteArray) (is : List ND) (ks : List ByteArray) : (ND.mk a d k c s t is ks).enc = .ag [.int .i64 a, .int .i64 d, .int .i64 k, .int .i64 c, .int .i64 s, .str t, .sl (is.map ND.enc), .sl (ks.map .str)] := by
 simp [ND.enc, ND.encs_eq]
@[simp] theorem ND.enc_fits (v : ND) : v.enc.fits 8 true = true := by
 obtain ⟨a, d, k, c, s, t, is, ks⟩ := v
 simp [ND.enc]
@[simp] theorem ND.all_fits (l : List ND) : (l.map ND.enc).all (FV.fits 8 true) = true := Ab.all_fits _ (fun v => v.enc_fits) l
def ND.a : ND → Int | .mk a _ _ _ _ _ _ _ => a
def ND.d : ND → Int | .mk _ d _ _ _ _ _ _ => d
def ND.k : ND → Int | .mk _ _ k _ _ _ _ _ => k
def ND.is : ND → List ND | .mk _ _ _ _ _ _ is _ => is
def ND.ks : ND → List ByteArray | .mk _ _ _ _ _ _ _ ks => ks
inductive ND.Sm : ND → Prop where
  | mk {a d k c s : Int} {t : ByteArray} {is : List ND} {ks : List ByteArray} (hi : is.length ≤ 134217728) (hk : ks.length ≤ 134217728) (ht : t.size ≤ 134217728) (hs : ∀ s ∈ ks, s.size ≤ 134217728) (h : ∀ v ∈ is, v.Sm) : (ND.mk a d k c s t is ks).Sm
mutual
def ND.cnt : ND → Nat
 | .mk _ _ _ _ _ _ is _ => 1 + ND.cnts is
def ND.cnts : List ND → Nat
 | [] => 0
 | v :: r => v.cnt + ND.cnts r
end
theorem ND.cnt_mk (a d k c s : Int) (t : ByteArray) (is : List ND) (ks : List ByteArray) : (ND.mk a d k c s t is ks).cnt = 1 + ND.cnts is := by simp [ND.cnt]
theorem ND.cnts_drop {l : List ND} {i : Nat} (h : i < l.length) : ND.cnts (l.drop i) = (l[i]).cnt + ND.cnts (l.drop (i + 1)) := by
 rw [drop_cons h, ND.cnts]
def capN (k c most : Int) : Int := if k ≥ most then k else if k + c ≥ most then most else k + c
theorem capN_zero {x m : Int} (h : x ≤ m) : capN x ((0 : Nat) : Int) m = x := by
 unfold capN
 by_cases h1 : x ≥ m
 ·rw [if_pos h1]
 ·rw [if_neg h1, if_neg (by omega)]; omega
theorem capN_add {x m : Int} (c1 c2 : Nat) : capN (capN x c1 m) c2 m = capN x ((c1 + c2 : Nat) : Int) m := by
 unfold capN
 by_cases h1 : x ≥ m
 ·simp only [if_pos h1]
 ·by_cases h2 : x + c1 ≥ m
  ·rw [if_neg h1, if_pos h2, if_pos (Int.le_refl m), if_neg h1, if_pos (by omega)]
  ·rw [if_neg h1, if_neg h2, if_neg h2, if_neg h1]
   by_cases h3 : x + c1 + c2 ≥ m
   ·rw [if_pos h3, if_pos (by omega)]
   ·rw [if_neg h3, if_neg (by omega)]; omega
theorem capN_one {x m : Int} (c : Nat) (h : ¬ x ≥ m) : capN (x + 1) c m = capN x ((1 + c : Nat) : Int) m := by
 unfold capN
 rw [if_neg h]
 by_cases h1 : x + 1 ≥ m
 ·rw [if_pos h1, if_pos (by omega)]; omega
 ·rw [if_neg h1]
  by_cases h2 : x + 1 + c ≥ m
  ·rw [if_pos h2, if_pos (by omega)]
  ·rw [if_neg h2, if_neg (by omega)]; omega
theorem capN_le {x m : Int} (c : Nat) (h : x ≤ m) (h0 : 0 ≤ x) : 0 ≤ capN x c m ∧ capN x c m ≤ m := by
 unfold capN
 by_cases h1 : x ≥ m
 ·rw [if_pos h1]; omega
 ·rw [if_neg h1]
  by_cases h2 : x + c ≥ m
  ·rw [if_pos h2]; omega
  ·rw [if_neg h2]; omega
theorem nsize_ok {v : ND} (hv : v.Sm) : ∀ n m : Int, 0 ≤ n → m ≤ 100000 → Rt0 N_ref09_Size [.fz v.enc, .fz (.int .i64 n), .fz (.int .i64 m)] = some ([.fz (.int .i64 (capN n v.cnt m))], []) := by
 induction hv with
 | @mk a d k c s t is ks hi hk ht hs h ih =>
  intro n m hn hm
  have loop : ∀ (j : Nat) (x : Int) (i : Nat), 0 ≤ x → x ≤ m → i + j = is.length → L_ref09_Size_1_0 Rt0 (is.length + 1) true (j + 1) x m i a d k c s t (is.map ND.enc) (ks.map .str) = some (.exit 0, X_ref09_Size_1_0 (capN x (ND.cnts (is.drop i)) m)) := by
   intro j
   induction j with
   | zero =>
    intro x i hx hxm hij
    rw [L_ref09_Size_1_0_eq, List.drop_eq_nil_of_le (by omega)]
    have e : capN x ((ND.cnts [] : Nat) : Int) m = x := by simpa [ND.cnts] using capN_zero hxm
    rw [e]
    simp [show ¬ ((i : Int) < (is.length : Int)) by omega]
   | succ j jh =>
    intro x i hx hxm hij
    have hl : i < is.length := by omega
    have h1 := ih is[i] (List.getElem_mem hl) x m hx hm
    have hc := capN_le (is[i]).cnt hxm hx
    have h2 := jh (capN x (is[i]).cnt m) (i + 1) hc.1 hc.2 (by omega)
    have e : capN (capN x (is[i]).cnt m) ((ND.cnts (is.drop (i + 1)) : Nat) : Int) m = capN x ((ND.cnts (is.drop i) : Nat) : Int) m := by
     rw [ND.cnts_drop hl]; exact capN_add _ _
    rw [e] at h2
    push_cast at h2
    rw [L_ref09_Size_1_0_eq]
    have hw : IntKind.wrap .i64 ((i : Int) + 1) = (i : Int) + 1 := wrap64 (by omega) (by omega)
    simp [show (i : Int) < (is.length : Int) by omega, List.getElem?_eq_getElem hl, h1, onR_some, hw, h2]
  by_cases hnm : n ≥ m
  ·have e : capN n ((ND.mk a d k c s t is ks).cnt : Int) m = n := by unfold capN; rw [if_pos hnm]
   rw [e]
   refine rt_call0 A_ref09_Size rfl rfl 0 ?_
   rw [ND.enc_mk, E_ref09_Size]
   simp [hnm]
  ·have hr := loop is.length (IntKind.wrap .i64 (n + 1)) 0 (by rw [wrap64 (by omega) (by omega)]; omega) (by rw [wrap64 (by omega) (by omega)]; omega) (by omega)
   have e : capN (n + 1) ((ND.cnts (is.drop 0) : Nat) : Int) m = capN n ((ND.mk a d k c s t is ks).cnt : Int) m := by
    rw [ND.cnt_mk, List.drop_zero]; exact capN_one _ hnm
   rw [show ((0 : Nat) : Int) = 0 from rfl] at hr
   refine rt_call0 A_ref09_Size rfl rfl (is.length + 1) ?_
   rw [ND.enc_mk, E_ref09_Size]
   simp only [show decide (n ≥ m) = false by simpa using hnm, ifB_false]
   rw [hr, onL_some, X_ref09_Size_1_0_eq, wrap64 (by omega) (by omega), e]
theorem nflat_tot {v : ND} (hv : v.Sm) : ∀ n : Int, ∃ b : Bool, Rt0 N_ref09_Flat [.fz v.enc, .fz (.int .i64 n)] = some ([.fz (.bool b)], []) := by
 induction hv with
 | @mk a d k c s t is ks hi hk ht hs h ih =>
  intro n
  have loop : ∀ (j : Nat) (i : Nat), i + j = is.length → ∃ b : Bool, onL (L_ref09_Flat_1_0 Rt0 (is.length + 1) true (j + 1) n i a d k c s t (is.map ND.enc) (ks.map .str)) (K_ref09_Flat_1 Rt0 (is.length + 1) true) = some ([.fz (.bool b)], []) := by
   intro j
   induction j with
   | zero =>
    intro i hij
    refine ⟨true, ?_⟩
    rw [L_ref09_Flat_1_0_eq]
    simp [show ¬ ((i : Int) < (is.length : Int)) by omega, onL_some, X_ref09_Flat_1_1_eq]
   | succ j jh =>
    intro i hij
    have hl : i < is.length := by omega
    obtain ⟨b1, h1⟩ := ih is[i] (List.getElem_mem hl) (IntKind.wrap .i64 (n - 1))
    obtain ⟨b, h2⟩ := jh (i + 1) (by omega)
    push_cast at h2
    have hw : IntKind.wrap .i64 ((i : Int) + 1) = (i : Int) + 1 := wrap64 (by omega) (by omega)
    rw [L_ref09_Flat_1_0_eq]
    cases b1 with
    | true => exact ⟨b, by simp [show (i : Int) < (is.length : Int) by omega, List.getElem?_eq_getElem hl, h1, onR_some, hw, h2]⟩
    | false => exact ⟨false, by simp [show (i : Int) < (is.length : Int) by omega, List.getElem?_eq_getElem hl, h1, onR_some, onL_some, X_ref09_Flat_1_0_eq]⟩
  by_cases hn : n < 0
  ·refine ⟨false, rt_call0 A_ref09_Flat rfl rfl 0 ?_⟩
   rw [ND.enc_mk, E_ref09_Flat]
   simp [hn]
  ·obtain ⟨b, hb⟩ := loop is.length 0 (by omega)
   refine ⟨b, rt_call0 A_ref09_Flat rfl rfl (is.length + 1) ?_⟩
   rw [ND.enc_mk, E_ref09_Flat]
   rw [show decide (n < 0) = false by simpa using hn, ifB_false]
   exact hb
theorem nlight_ok {v : ND} (hv : v.Sm) (n : Int) (h0 : 0 ≤ n) (h1 : n ≤ 9999) : ∃ b : Bool, Rt0 N_ref09_Light [.fz v.enc, .fz (.int .i64 n)] = some ([.fz (.bool b)], []) ∧ (b = true → (v.cnt : Int) ≤ n) := by
 have hsz := nsize_ok hv 0 (n + 1) (by omega) (by omega)
 obtain ⟨b, hb⟩ := nflat_tot hv 60
 obtain ⟨a, d, k, c, s, t, is, ks⟩ := v
 have hE := E_ref09_Light Rt0 0 true a d k c s t (is.map ND.enc) (ks.map .str) n
 rw [wrap64 (show -9223372036854775808 ≤ n + 1 by omega) (by omega), ← ND.enc_mk, hsz, hb] at hE
 by_cases q : capN 0 (ND.mk a d k c s t is ks).cnt (n + 1) ≤ n
 ·refine ⟨b, rt_call0 A_ref09_Light rfl rfl 0 (hE.trans ?_), fun _ => ?_⟩
  ·simp only [onR_some, List.isEmpty_nil, allF_cons, allF_nil, Bool.and_true, when_true', List.getD_cons_zero, toF_fz, isInt_int, toInt_int, decide_eq_true q, ifB_true, isBool_bool, toBool_bool]
  ·unfold capN at q
   split at q
   ·omega
   ·split at q <;> omega
 ·refine ⟨false, rt_call0 A_ref09_Light rfl rfl 0 (hE.trans ?_), fun h => by cases h⟩
  simp only [onR_some, List.isEmpty_nil, allF_cons, allF_nil, Bool.and_true, when_true', List.getD_cons_zero, toF_fz, isInt_int, toInt_int, decide_eq_false q, ifB_false]
end Go.Ab
end
section
namespace Go.Ab
structure Lt where
 n : Nat
 leq : Nat → Nat → Bool
 join : Nat → Nat → Nat
 meet : Nat → Nat → Nat
 bot : Nat
 top : Nat
structure Lt.Ok (L : Lt) : Prop where
  n1 : 1 ≤ L.n
  n8 : L.n ≤ 8
  bot : L.bot < L.n
  top : L.top < L.n
  botle : ∀ a, a < L.n → L.leq L.bot a = true
  letop : ∀ a, a < L.n → L.leq a L.top = true
  refl : ∀ a, a < L.n → L.leq a a = true
  anti : ∀ a b, a < L.n → b < L.n → L.leq a b = true → L.leq b a = true → a = b
  trans : ∀ a b c, a < L.n → b < L.n → c < L.n → L.leq a b = true → L.leq b c = true → L.leq a c = true
  join : ∀ a b, a < L.n → b < L.n → L.join a b < L.n
  joinl : ∀ a b, a < L.n → b < L.n → L.leq a (L.join a b) = true
  joinr : ∀ a b, a < L.n → b < L.n → L.leq b (L.join a b) = true
  joinm : ∀ a b c, a < L.n → b < L.n → c < L.n → L.leq a c = true → L.leq b c = true → L.leq (L.join a b) c = true
  meet : ∀ a b, a < L.n → b < L.n → L.meet a b < L.n
  meetl : ∀ a b, a < L.n → b < L.n → L.leq (L.meet a b) a = true
  meetr : ∀ a b, a < L.n → b < L.n → L.leq (L.meet a b) b = true
  meetm : ∀ a b c, a < L.n → b < L.n → c < L.n → L.leq c a = true → L.leq c b = true → L.leq c (L.meet a b) = true
structure IsLat (e : FV) (L : Lt) : Prop where
 ag : e.isAg 195 = true
 sl : (e.cell 0).isSl = true
 len : (e.cell 0).toSl.length = L.n
 leq : ∀ a b, a < L.n → b < L.n → e.cell (1 + a * 8 + b * 1) = .bool (L.leq a b)
 join : ∀ a b, a < L.n → b < L.n → e.cell (65 + a * 8 + b * 1) = .int .i64 (L.join a b)
 meet : ∀ a b, a < L.n → b < L.n → e.cell (129 + a * 8 + b * 1) = .int .i64 (L.meet a b)
 bot : e.cell 193 = .int .i64 L.bot
 top : e.cell 194 = .int .i64 L.top
 ok : L.Ok
structure IsTab (t : List FV) (L : Lt) : Prop where
  len : t.length = L.n
  fits : ∀ a, a < L.n → FV.fits 1 false (t.getD a .nilp) = true
  sl : ∀ a, a < L.n → (t.getD a .nilp).isSl = true
  rlen : ∀ a, a < L.n → (t.getD a .nilp).toSl.length = L.n
  cell : ∀ a b, a < L.n → b < L.n → (t.getD a .nilp).toSl.getD b .nilp = .bool (L.leq a b)
def Lt.is (L : Lt) (a : Int) : Bool := decide (0 ≤ a) && decide (a < L.n)
def Lt.leqI (L : Lt) (a b : Int) : Bool := L.is a && (L.is b && L.leq a.toNat b.toNat)
def Lt.joinI (L : Lt) (a b : Int) : Nat := if L.is a = true ∧ L.is b = true then L.join a.toNat b.toNat else L.top
theorem Lt.is_iff {L : Lt} {a : Int} : L.is a = true ↔ 0 ≤ a ∧ a < L.n := by simp [Lt.is]
theorem Lt.is_nat {L : Lt} {a : Nat} : L.is (a : Int) = decide (a < L.n) := by
 rw [Bool.eq_iff_iff, Lt.is_iff]; simp
theorem Lt.Ok.joinI_lt {L : Lt} (O : L.Ok) (a b : Int) : L.joinI a b < L.n := by
 unfold Lt.joinI
 split
 ·rename_i h
  have h1 := Lt.is_iff.1 h.1
  have h2 := Lt.is_iff.1 h.2
  exact O.join _ _ (by omega) (by omega)
 ·exact O.top
section
variable {e : FV} {L : Lt} (I : IsLat e L)
include I
theorem lat_Size : Rt0 N_level_Lattice_Size [.fz (.pt 195 true e 0)] = some ([.fz (.int .i64 L.n)], []) := by
 refine rt_call0 A_level_Lattice_Size rfl rfl 0 ?_
 rw [E_level_Lattice_Size, I.ag, I.sl, I.len]; simp
theorem lat_Is (a : Int) : Rt0 N_level_Lattice_Is [.fz (.pt 195 true e 0), .fz (.int .i64 a)] = some ([.fz (.bool (L.is a))], []) := by
 refine rt_call0 A_level_Lattice_Is rfl rfl 0 ?_
 rw [E_level_Lattice_Is, lat_Size I]
 unfold Lt.is
 by_cases h : 0 ≤ a
 ·simp [onR_some, h]
 ·simp [onR_some, h]
theorem lat_Top : Rt0 N_level_Lattice_Top [.fz (.pt 195 true e 0)] = some ([.fz (.int .i64 L.top)], []) := by
 refine rt_call0 A_level_Lattice_Top rfl rfl 0 ?_
 rw [E_level_Lattice_Top, I.ag, I.top]; simp
theorem lat_Bottom : Rt0 N_level_Lattice_Bottom [.fz (.pt 195 true e 0)] = some ([.fz (.int .i64 L.bot)], []) := by
 refine rt_call0 A_level_Lattice_Bottom rfl rfl 0 ?_
 rw [E_level_Lattice_Bottom, I.ag, I.bot]; simp
theorem lat_Leq (a b : Int) : Rt0 N_level_Lattice_Leq [.fz (.pt 195 true e 0), .fz (.int .i64 a), .fz (.int .i64 b)] = some ([.fz (.bool (L.leqI a b))], []) := by
 refine rt_call0 A_level_Lattice_Leq rfl rfl 0 ?_
 rw [E_level_Lattice_Leq, lat_Is I, lat_Is I]
 unfold Lt.leqI
 cases ha : L.is a with
 | false => simp [onR_some]
 | true =>
  cases hb : L.is b with
  | false => simp [onR_some]
  | true =>
   have h1 := Lt.is_iff.1 ha
   have h2 := Lt.is_iff.1 hb
   have h8 := I.ok.n8
   have hl := I.leq a.toNat b.toNat (by omega) (by omega)
   rw [I.ag]
   have c : Nat.blt (1 + a.toNat * 8 + b.toNat * 1) 195 = true := by rw [Nat.blt_eq]; omega
   rw [Nat.mul_one] at hl c
   simp [onR_some, hl, c, h1.1, h2.1, show a < 8 by omega, show b < 8 by omega]
theorem lat_Join (a b : Int) : Rt0 N_level_Lattice_Join [.fz (.pt 195 true e 0), .fz (.int .i64 a), .fz (.int .i64 b)] = some ([.fz (.int .i64 (L.joinI a b))], []) := by
 refine rt_call0 A_level_Lattice_Join rfl rfl 0 ?_
 rw [E_level_Lattice_Join, lat_Is I, lat_Is I, lat_Top I]
 unfold Lt.joinI
 cases ha : L.is a with
 | false => simp [onR_some]
 | true =>
  cases hb : L.is b with
  | false => simp [onR_some]
  | true =>
   have h1 := Lt.is_iff.1 ha
   have h2 := Lt.is_iff.1 hb
   have h8 := I.ok.n8
   have hl := I.join a.toNat b.toNat (by omega) (by omega)
   have c : Nat.blt (65 + a.toNat * 8 + b.toNat * 1) 195 = true := by rw [Nat.blt_eq]; omega
   rw [Nat.mul_one] at hl c
   simp [onR_some, J_level_Lattice_Join_1_0_eq, hl, I.ag, c, h1.1, h2.1, show a < 8 by omega, show b < 8 by omega]
end
end Go.Ab
end
section
namespace Go.Ab
abbrev Tb := Nat → Nat → Bool
def bT (f : Tb) : FV := .ag ((List.range 64).map fun i => .bool (f (i / 8) (i % 8)))
def upd2 (f : Tb) (a b : Nat) (v : Bool) : Tb := fun x y => if x = a ∧ y = b then v else f x y
def zT : Tb := fun _ _ => false
theorem z64 : FV.ag [.bool false, .bool false, .bool false, .bool false, .bool false, .bool false, .bool false, .bool false, .bool false, .bool false, .bool false, .bool false, .bool false, .bool false, .bool false, .bool false, .bool false, .bool false, .bool false, .bool false, .bool false, .bool false, .bool false, .bool false, .bool false, .bool false, .bool false, .bool false, .bool false, .bool false, .bool false, .bool false, .bool false, .bool false, .bool false, .bool false, .bool false, .bool false, .bool false, .bool false, .bool false, .bool false, .bool false, .bool false, .bool false, .bool false, .bool false, .bool false, .bool false, .bool false, .bool false, .bool false, .bool false, .bool false, .bool false, .bool false, .bool false, .bool false, .bool false, .bool false, .bool false, .bool false, .bool false, .bool false] = bT zT := by kernel_rfl
@[simp] theorem bT_ag (f : Tb) : FV.isAg 64 (bT f) = true := by simp [bT]
@[simp] theorem bT_fits (f : Tb) : FV.fits 64 true (bT f) = true := by simp [bT]
theorem bT_cell (f : Tb) {a b : Nat} (ha : a < 8) (hb : b < 8) : FV.cell (bT f) (a * 8 + b) = .bool (f a b) := by
 have h : a * 8 + b < 64 := by omega
 simp [bT, h, show (a * 8 + b) / 8 = a by omega, show (a * 8 + b) % 8 = b by omega]
theorem bT_set (f : Tb) {a b : Nat} (ha : a < 8) (hb : b < 8) (v : Bool) : FV.ag (List.set (FV.toAg (bT f)) (a * 8 + b) (.bool v)) = bT (upd2 f a b v) := by
 unfold bT
 simp only [toAg_ag]
 congr 1
 apply List.ext_getElem (by simp)
 intro i h1 h2
 have hi : i < 64 := by simpa using h2
 rw [List.getElem_set]
 simp only [List.getElem_map, List.getElem_range, upd2]
 by_cases e : a * 8 + b = i
 ·subst e
  rw [if_pos rfl, if_pos (by constructor <;> omega)]
 ·rw [if_neg e, if_neg (by rintro ⟨h3, h4⟩; omega)]
def Ag8 (f g : Tb) : Prop := ∀ a b, a < 8 → b < 8 → f a b = g a b
theorem bT_eq {f g : Tb} (h : Ag8 f g) : bT f = bT g := by
 unfold bT
 congr 1
 apply List.map_congr_left
 intro i hi
 have : i < 64 := by simpa using hi
 rw [h _ _ (by omega) (by omega)]
theorem bl64 {a b : Nat} (ha : a < 8) (hb : b < 8) : Nat.blt (a * 8 + b) 64 = true := by rw [Nat.blt_eq]; omega
def stp (f : Tb) (t : Nat × Nat × Nat) : Tb := upd2 f t.1 t.2.2 (f t.1 t.2.2 || (f t.1 t.2.1 && f t.2.1 t.2.2))
def Le (f g : Tb) : Prop := ∀ a b, f a b = true → g a b = true
def Tr (n : Nat) (f : Tb) : Prop := ∀ a b c, a < n → b < n → c < n → f a b = true → f b c = true → f a c = true
theorem Le.refl (f : Tb) : Le f f := fun _ _ h => h
theorem Le.trans {f g h : Tb} (x : Le f g) (y : Le g h) : Le f h := fun a b z => y a b (x a b z)
theorem stp_le (f : Tb) (t : Nat × Nat × Nat) : Le f (stp f t) := fun a b h => by
 unfold stp upd2
 split
 ·rename_i e; rw [← e.1, ← e.2, h]; rfl
 ·exact h
theorem stp_least {n : Nat} {f h : Tb} {t : Nat × Nat × Nat} (ht : t.1 < n ∧ t.2.1 < n ∧ t.2.2 < n) (hh : Tr n h) (l : Le f h) : Le (stp f t) h := fun a b e => by
 unfold stp upd2 at e
 split at e
 ·rename_i q
  rw [q.1, q.2]
  rcases Bool.or_eq_true_iff.1 e with e | e
  ·exact l _ _ e
  ·rw [Bool.and_eq_true] at e
   exact hh _ _ _ ht.1 ht.2.1 ht.2.2 (l _ _ e.1) (l _ _ e.2)
 ·exact l _ _ e
theorem fold_le : ∀ (l : List (Nat × Nat × Nat)) (f : Tb), Le f (l.foldl stp f)
 | [], f => Le.refl f
 | t :: l, f => (stp_le f t).trans (fold_le l _)
theorem fold_least {n : Nat} {h : Tb} (hh : Tr n h) : ∀ (l : List (Nat × Nat × Nat)) (f : Tb), (∀ t ∈ l, t.1 < n ∧ t.2.1 < n ∧ t.2.2 < n) → Le f h → Le (l.foldl stp f) h
 | [], f, _, l => l
 | t :: r, f, hl, l => fold_least hh r _ (fun t h => hl t (List.mem_cons_of_mem _ h)) (stp_least (hl t (List.mem_cons_self ..)) hh l)
theorem sandwich {f g h : Tb} (a : Le f g) (b : Le g h) (c : Ag8 h f) : Ag8 g f := fun x y hx hy => by
 cases hf : f x y with
 | true => exact a _ _ hf
 | false =>
  cases hg : g x y with
  | false => rfl
  | true => have := b _ _ hg; rw [c _ _ hx hy, hf] at this; cases this
theorem fold_fix : ∀ (l : List (Nat × Nat × Nat)) (f : Tb), (∀ t ∈ l, t.1 < 8 ∧ t.2.1 < 8 ∧ t.2.2 < 8) → Ag8 (l.foldl stp f) f → ∀ t ∈ l, f t.1 t.2.1 = true → f t.2.1 t.2.2 = true → f t.1 t.2.2 = true
 | [], f, _, _, t, ht => by cases ht
 | s :: r, f, hl, hA, t, ht => by
  have h1 : Ag8 (stp f s) f := sandwich (stp_le f s) (fold_le r _) hA
  have hs := hl s (List.mem_cons_self ..)
  rcases List.mem_cons.1 ht with rfl | ht
  ·intro x y
   have := h1 t.1 t.2.2 hs.1 hs.2.2
   simpa [stp, upd2, x, y] using this
  ·have h2 : Ag8 (r.foldl stp (stp f s)) (stp f s) := fun a b ha hb => (hA a b ha hb).trans (h1 a b ha hb).symm
   have := fold_fix r _ (fun t h => hl t (List.mem_cons_of_mem _ h)) h2 t ht
   have q := hl t (List.mem_cons_of_mem _ ht)
   rwa [h1 _ _ q.1 q.2.1, h1 _ _ q.2.1 q.2.2, h1 _ _ q.1 q.2.2] at this
def tri (a b c m : Nat) : List (Nat × Nat × Nat) := (List.range' c m).map fun c => (a, b, c)
def tri2 (n a b m : Nat) : List (Nat × Nat × Nat) := (List.range' b m).flatMap fun b => tri a b 0 n
def tri3 (n a m : Nat) : List (Nat × Nat × Nat) := (List.range' a m).flatMap fun a => tri2 n a 0 n
theorem tri3_mem {n : Nat} {t : Nat × Nat × Nat} : t ∈ tri3 n 0 n ↔ t.1 < n ∧ t.2.1 < n ∧ t.2.2 < n := by
 obtain ⟨a, b, c⟩ := t
 simp only [tri3, tri2, tri, List.mem_flatMap, List.mem_map, List.mem_range'_1, Prod.mk.injEq]
 constructor
 ·rintro ⟨x, hx, y, hy, z, hz, rfl, rfl, rfl⟩
  exact ⟨by omega, by omega, by omega⟩
 ·rintro ⟨h1, h2, h3⟩
  exact ⟨a, by omega, b, by omega, c, by omega, rfl, rfl, rfl⟩
def pass (n : Nat) (f : Tb) : Tb := (tri3 n 0 n).foldl stp f
structure Clo (n : Nat) (f g : Tb) : Prop where
  le : Le f g
  tr : Tr n g
  least : ∀ h, Le f h → Tr n h → Le g h
theorem Clo.uniq {n : Nat} {f g h : Tb} (x : Clo n f g) (y : Clo n f h) : ∀ a b, g a b = h a b := fun a b => by
 rw [Bool.eq_iff_iff]
 exact ⟨fun e => x.least h y.le y.tr a b e, fun e => y.least g x.le x.tr a b e⟩
def cnt (f : Tb) : Nat := ((List.range 64).filter fun i => f (i / 8) (i % 8)).length
theorem cnt_le (f : Tb) : cnt f ≤ 64 := by
 have := List.length_filter_le (fun i => f (i / 8) (i % 8)) (List.range 64)
 simpa [cnt] using this
theorem filt_lt {p q : Nat → Bool} : ∀ (l : List Nat), (∀ i ∈ l, p i = true → q i = true) → (∃ i ∈ l, p i = false ∧ q i = true) → (l.filter p).length < (l.filter q).length
 | [], _, ⟨_, h, _⟩ => by cases h
 | i :: l, h, hx => by
  have le : (l.filter p).length ≤ (l.filter q).length := by
   clear hx
   induction l with
   | nil => simp
   | cons j l ih =>
    have ih' := ih (fun k hk => h k (by rcases List.mem_cons.1 hk with rfl | hk; exact List.mem_cons_self ..; exact List.mem_cons_of_mem _ (List.mem_cons_of_mem _ hk)))
    have hj := h j (by simp)
    simp only [List.filter_cons]
    cases hp : p j with
    | true => rw [hj hp]; simpa using ih'
    | false => cases hq : q j <;> simp <;> omega
  simp only [List.filter_cons]
  cases hp : p i with
  | true =>
   rw [h i (by simp) hp]
   obtain ⟨k, hk, h1, h2⟩ := hx
   rcases List.mem_cons.1 hk with rfl | hk
   ·rw [hp] at h1; cases h1
   ·have := filt_lt l (fun j hj => h j (List.mem_cons_of_mem _ hj)) ⟨k, hk, h1, h2⟩
    simpa using this
  | false =>
   cases hq : q i with
   | true => simp; omega
   | false =>
    obtain ⟨k, hk, h1, h2⟩ := hx
    rcases List.mem_cons.1 hk with rfl | hk
    ·rw [hq] at h2; cases h2
    ·have := filt_lt l (fun j hj => h j (List.mem_cons_of_mem _ hj)) ⟨k, hk, h1, h2⟩
     simpa using this
theorem cnt_lt {f g : Tb} (l : Le f g) (h : ¬ Ag8 g f) : cnt f < cnt g := by
 refine filt_lt _ (fun i _ => l _ _) ?_
 simp only [Ag8] at h
 apply Classical.byContradiction
 intro hc
 apply h
 intro a b ha hb
 cases hf : f a b with
 | true => exact l _ _ hf
 | false =>
  cases hg : g a b with
  | false => rfl
  | true =>
   refine absurd ⟨a * 8 + b, ?_, ?_, ?_⟩ hc
   ·simp; omega
   ·rw [show (a * 8 + b) / 8 = a by omega, show (a * 8 + b) % 8 = b by omega]; exact hf
   ·rw [show (a * 8 + b) / 8 = a by omega, show (a * 8 + b) % 8 = b by omega]; exact hg
theorem eks_bT (f g : Tb) : eksOk (List.replicate 64 .bool) (FV.toAg (bT f)) = true := by
 have : ∀ (l : List Bool), eksOk (List.replicate l.length .bool) (l.map .bool) = true := by
  intro l
  induction l with
  | nil => rfl
  | cons a l ih => simpa [List.replicate_succ, eksOk, ekOk] using ih
 have h := this ((List.range 64).map fun i => f (i / 8) (i % 8))
 simpa [bT, Function.comp_def] using h
theorem eksEq_bT (f g : Tb) : eksEq (List.replicate 64 .bool) (FV.toAg (bT f)) (FV.toAg (bT g)) = true ↔ Ag8 f g := by
 have : ∀ (l : List Nat), eksEq (List.replicate l.length .bool) (l.map fun i => .bool (f (i / 8) (i % 8))) (l.map fun i => .bool (g (i / 8) (i % 8))) = true ↔ ∀ i ∈ l, f (i / 8) (i % 8) = g (i / 8) (i % 8) := by
  intro l
  induction l with
  | nil => simp [eksEq]
  | cons a l ih => simp [List.replicate_succ, eksEq, ekEq, ih]
 have h := this (List.range 64)
 simp only [List.length_range] at h
 simp only [bT, toAg_ag]
 rw [h]
 constructor
 ·intro h a b ha hb
  have := h (a * 8 + b) (by simp; omega)
  rwa [show (a * 8 + b) / 8 = a by omega, show (a * 8 + b) % 8 = b by omega] at this
 ·intro h i hi
  have : i < 64 := by simpa using hi
  exact h _ _ (by omega) (by omega)
end Go.Ab
end
section
namespace Go.Ab
theorem wrn {c : Nat} (h : c < 1152921504606846976) : IntKind.wrap .i64 ((c : Int) + 1) = ((c + 1 : Nat) : Int) := by
 rw [wrap64 (by omega) (by omega)]; simp
theorem lt8 {a : Nat} (h : a < 8) : (decide ((0 : Int) ≤ (a : Int)) && decide ((a : Int) < 8)) = true := by simp; omega
theorem closed1 {a b n K : Nat} (ha : a < 8) (hb : b < 8) (hn : n ≤ 8) (x10 x11 x14 x15 : Int) (y z : FV) : ∀ (m c N : Nat) (f : Tb), c + m = n → m < N →
   L_level_closed_1_0 Rt0 K true N n a b x10 x11 x14 x15 n c (bT f) y z = some (.exit 6, X_level_closed_1_0 n a x10 x11 x14 x15 (bT ((tri a b c m).foldl stp f)) y z)
 | m, c, 0, f, _, h => by omega
 | 0, c, N + 1, f, h, _ => by
   rw [L_level_closed_1_0_eq]
   simp [show ¬ ((c : Int) < (n : Int)) by omega, tri]
 | m + 1, c, N + 1, f, h, hN => by
   have hc : c < 8 := by omega
   have ih := fun g => closed1 (K := K) ha hb hn x10 x11 x14 x15 y z m (c + 1) N g (by omega) (by omega)
   have ht : tri a b c (m + 1) = (a, b, c) :: tri a b (c + 1) m := by simp [tri, List.range'_succ]
   rw [L_level_closed_1_0_eq, ht]
   have hlt : decide ((c : Int) < (n : Int)) = true := by simp; omega
   have e1 := bT_cell f ha hc
   have e2 := bT_cell f ha hb
   have e3 := bT_cell f hb hc
   have s1 := bT_set f ha hc
   simp only [hlt, ifB_true, lt8 ha, lt8 hb, lt8 hc, when_true', bT_ag, Int.toNat_natCast, Nat.zero_add, Nat.mul_one, bl64 ha hc, bl64 ha hb, bl64 hb hc, e1, e2, e3, s1, isBool_bool, toBool_bool, Bool.and_true, wrn (show c < 1152921504606846976 by omega), ih, List.foldl_cons]
   have hs : stp f (a, b, c) = upd2 f a c (f a c || (f a b && f b c)) := rfl
   rw [hs]
   cases h1 : f a c with
   | true => simp only [ifB_true, Bool.true_or]
   | false =>
     cases h2 : f a b with
     | true => simp only [ifB_true, ifB_false, Bool.false_or, Bool.true_and]
     | false => simp only [ifB_false, Bool.false_or, Bool.false_and]
theorem closed2 {a n K : Nat} (ha : a < 8) (hn : n ≤ 8) (hK : 8 < K) (x10 x11 : Int) (y z : FV) : ∀ (m b N : Nat) (f : Tb), b + m = n → m < N →
   L_level_closed_2_0 Rt0 K true N n a x10 x11 n b (bT f) y z = some (.exit 4, X_level_closed_2_0 n x10 x11 (bT ((tri2 n a b m).foldl stp f)) y z)
 | m, b, 0, f, _, h => by omega
 | 0, b, N + 1, f, h, _ => by
   rw [L_level_closed_2_0_eq]
   simp [show ¬ ((b : Int) < (n : Int)) by omega, tri2]
 | m + 1, b, N + 1, f, h, hN => by
   have hb : b < 8 := by omega
   have ih := fun g => closed2 ha hn hK x10 x11 y z m (b + 1) N g (by omega) (by omega)
   have ht : tri2 n a b (m + 1) = tri a b 0 n ++ tri2 n a (b + 1) m := by simp [tri2, List.range'_succ]
   rw [L_level_closed_2_0_eq, ht]
   have hlt : decide ((b : Int) < (n : Int)) = true := by simp; omega
   have h1 := closed1 (K := K) ha hb hn x10 x11 n b y z n 0 K f (by omega) (by omega)
   simp only [Int.natCast_zero] at h1
   simp only [hlt, ifB_true, h1, onL_some, X_level_closed_1_0_eq, wrn (show b < 1152921504606846976 by omega), ih, List.foldl_append]
theorem closed3 {n K : Nat} (hn : n ≤ 8) (hK : 8 < K) (y z : FV) : ∀ (m a N : Nat) (f : Tb), a + m = n → m < N →
   L_level_closed_3_0 Rt0 K true N n n a (bT f) y z = some (.exit 2, X_level_closed_3_0 n (bT ((tri3 n a m).foldl stp f)) y z)
 | m, b, 0, f, _, h => by omega
 | 0, a, N + 1, f, h, _ => by
   rw [L_level_closed_3_0_eq]
   simp [show ¬ ((a : Int) < (n : Int)) by omega, tri3]
 | m + 1, a, N + 1, f, h, hN => by
   have ha : a < 8 := by omega
   have ih := fun g => closed3 hn hK y z m (a + 1) N g (by omega) (by omega)
   have ht : tri3 n a (m + 1) = tri2 n a 0 n ++ tri3 n (a + 1) m := by simp [tri3, List.range'_succ]
   rw [L_level_closed_3_0_eq, ht]
   have hlt : decide ((a : Int) < (n : Int)) = true := by simp; omega
   have h1 := closed2 (K := K) ha hn hK n a y z n 0 K f (by omega) (by omega)
   simp only [Int.natCast_zero] at h1
   simp only [hlt, ifB_true, h1, onL_some, X_level_closed_2_0_eq, wrn (show a < 1152921504606846976 by omega), ih, List.foldl_append]
theorem pass_clo {n : Nat} (hn : n ≤ 8) {f0 f : Tb} (h1 : Le f0 f) (h2 : ∀ h, Le f0 h → Tr n h → Le f h) (hA : Ag8 (pass n f) f) : Clo n f0 f := by
 refine ⟨h1, fun a b c ha hb hc x y => ?_, h2⟩
 exact fold_fix (tri3 n 0 n) f (fun t ht => by have := tri3_mem.1 ht; omega) hA (a, b, c) (tri3_mem.2 ⟨ha, hb, hc⟩) x y
theorem closed4 {n K : Nat} (hn : n ≤ 8) (hK : 8 < K) (y : FV) {f0 : Tb} : ∀ (N : Nat) (f : Tb), 65 ≤ N + cnt f → Le f0 f → (∀ h, Le f0 h → Tr n h → Le f h) →
   ∃ g, Clo n f0 g ∧ L_level_closed_4_0 Rt0 K true N n (bT f) y = some (.ret, X_level_closed_4_0 (bT g))
 | 0, f, h, _, _ => by have := cnt_le f; omega
 | N + 1, f, h, h1, h2 => by
   rw [L_level_closed_4_0_eq]
   have c3 := closed3 (K := K) hn hK y (bT f) n 0 K f (by omega) (by omega)
   simp only [Int.natCast_zero] at c3
   have hle : Le f (pass n f) := fold_le _ _
   simp only [bT_fits, when_true', c3, onL_some, X_level_closed_3_0_eq, bT_ag, Bool.and_true]
   show ∃ g, Clo n f0 g ∧ when (eksOk _ (FV.toAg (bT (pass n f))) && eksOk _ (FV.toAg (bT f))) (ifB (eksEq _ (FV.toAg (bT (pass n f))) (FV.toAg (bT f))) (when (FV.fits 64 true (bT (pass n f))) (some (.ret, X_level_closed_4_0 (bT (pass n f))))) (L_level_closed_4_0 Rt0 K true N n (bT (pass n f)) y)) = _
   rw [eks_bT _ f, eks_bT _ f]
   simp only [Bool.and_true, when_true', bT_fits]
   cases hq : eksEq (List.replicate 64 .bool) (FV.toAg (bT (pass n f))) (FV.toAg (bT f)) with
   | true =>
     have hA := (eksEq_bT _ _).1 hq
     refine ⟨f, pass_clo hn h1 h2 hA, ?_⟩
     rw [ifB_true, bT_eq hA]
   | false =>
     rw [ifB_false]
     have hA : ¬ Ag8 (pass n f) f := fun h => by rw [(eksEq_bT _ _).2 h] at hq; cases hq
     have := cnt_lt hle hA
     exact closed4 hn hK y N (pass n f) (by omega) (h1.trans hle) (fun h q t => fold_least t _ f (fun x hx => tri3_mem.1 hx) (h2 h q t))
theorem closed_ok {n : Nat} (hn : n ≤ 8) (f : Tb) : ∃ g, Clo n f g ∧ Rt0 N_level_closed [.fz (bT f), .fz (.int .i64 n)] = some ([.fz (bT g)], []) := by
 obtain ⟨g, hg, h⟩ := closed4 (K := 70) hn (by omega) (bT zT) (f0 := f) 70 f (by omega) (Le.refl f) (fun h q _ => q)
 refine ⟨g, hg, ?_⟩
 refine rt_call0 A_level_closed rfl rfl 70 ?_
 rw [E_level_closed]
 have hz := z64
 rw [hz, bT_fits, when_true', h, onL_some, X_level_closed_4_0_eq]
def trnTo (f : Tb) (r : Nat) : Tb := fun x y => if y * 8 + x < r then f y x else false
theorem trnTo_set (f : Tb) {a b : Nat} (ha : a < 8) (hb : b < 8) : Ag8 (upd2 (trnTo f (a * 8 + b)) b a (f a b)) (trnTo f (a * 8 + (b + 1))) := fun x y hx hy => by
 unfold upd2 trnTo
 by_cases e : x = b ∧ y = a
 ·rw [if_pos e, if_pos (by omega), e.1, e.2]
 ·rw [if_neg e]
  by_cases h : y * 8 + x < a * 8 + b
  ·rw [if_pos h, if_pos (by omega)]
  ·rw [if_neg h, if_neg (by omega)]
theorem turned1 {a K : Nat} (ha : a < 8) (f : Tb) (x6 : Int) (y : FV) : ∀ (m b N : Nat), b + m = 8 → m < N →
   L_level_turned_1_0 Rt0 K true N a x6 b (bT f) y (bT (trnTo f (a * 8 + b))) = some (.exit 2, X_level_turned_1_0 x6 (bT f) y (bT (trnTo f (a * 8 + 8))))
 | m, b, 0, _, h => by omega
 | 0, b, N + 1, h, _ => by
   rw [L_level_turned_1_0_eq]
   obtain rfl : b = 8 := by omega
   simp
 | m + 1, b, N + 1, h, hN => by
   have hb : b < 8 := by omega
   have ih := turned1 (K := K) ha f x6 y m (b + 1) N (by omega) (by omega)
   rw [L_level_turned_1_0_eq]
   have hlt : decide ((b : Int) < 8) = true := by simp; omega
   have h00 : decide ((0 : Int) ≤ (b : Int)) = true := by simp
   simp only [hlt, h00, ifB_true, lt8 ha, lt8 hb, when_true', bT_ag, Int.toNat_natCast, Nat.zero_add, Nat.mul_one, bl64 ha hb, bl64 hb ha, bT_cell f ha hb, bT_set _ hb ha, isBool_bool, toBool_bool, Bool.and_true, wrn (show b < 1152921504606846976 by omega), bT_eq (trnTo_set f ha hb), ih]
theorem turned2 {K : Nat} (hK : 9 < K) (f : Tb) (y : FV) : ∀ (m a N : Nat), a + m = 8 → m < N →
   L_level_turned_2_0 Rt0 K true N a (bT f) y (bT (trnTo f (a * 8))) = some (.exit 0, X_level_turned_2_0 y (bT (trnTo f 64)))
 | m, b, 0, _, h => by omega
 | 0, a, N + 1, h, _ => by
   rw [L_level_turned_2_0_eq]
   obtain rfl : a = 8 := by omega
   simp
 | m + 1, a, N + 1, h, hN => by
   have ha : a < 8 := by omega
   have ih := turned2 (K := K) hK f y m (a + 1) N (by omega) (by omega)
   rw [L_level_turned_2_0_eq]
   have hlt : decide ((a : Int) < 8) = true := by simp; omega
   have h1 := turned1 (K := K) ha f a y 8 0 K (by omega) (by omega)
   simp only [Int.natCast_zero, Nat.add_zero] at h1
   rw [show (a + 1) * 8 = a * 8 + 8 by omega] at ih
   simp only [hlt, ifB_true, h1, onL_some, X_level_turned_1_0_eq, wrn (show a < 1152921504606846976 by omega), ih]
theorem turned_ok (f : Tb) : Rt0 N_level_turned [.fz (bT f)] = some ([.fz (bT fun a b => f b a)], []) := by
 refine rt_call0 A_level_turned rfl rfl 12 ?_
 rw [E_level_turned]
 have ht : bT zT = bT (trnTo f 0) := bT_eq (fun a b _ _ => by simp [trnTo, zT])
 have hz := z64.trans ht
 have h2 := turned2 (K := 12) (by omega) f (bT (trnTo f 0)) 8 0 12 (by omega) (by omega)
 simp only [Int.natCast_zero, Nat.zero_mul] at h2
 rw [hz, bT_fits, when_true', h2, onL_some, X_level_turned_2_0_eq, bT_fits, when_true']
 have : bT (trnTo f 64) = bT (fun a b => f b a) := bT_eq (fun a b ha hb => by unfold trnTo; rw [if_pos (by omega)])
 rw [this]
def lub (f : Tb) (n a b c : Nat) : Bool := (List.range n).all fun d => !f a d || (!f b d || f c d)
def ovr (f : Tb) (n a b : Nat) : Nat → Nat → Int
 | 0, _ => -1
 | m + 1, c => if f a c && (f b c && lub f n a b c) then c else ovr f n a b m (c + 1)
def lubTo (f : Tb) (a b c d : Nat) : Bool := (List.range d).all fun d => !f a d || (!f b d || f c d)
theorem lubTo_succ (f : Tb) (a b c d : Nat) : lubTo f a b c (d + 1) = (lubTo f a b c d && (!f a d || (!f b d || f c d))) := by
 simp [lubTo, List.range_succ, List.all_append]
theorem over1 {a b c n K : Nat} (ha : a < 8) (hb : b < 8) (hc : c < 8) (hn : n ≤ 8) (f : Tb) (x12 x13 : Int) : ∀ (m d N : Nat), d + m = n → m < N →
   L_level_over_1_0 Rt0 K true N n a b c (lubTo f a b c d) x12 x13 n d (bT f) = some (.exit 2, X_level_over_1_0 n a b c (lub f n a b c) x12 x13 (bT f))
 | m, b, 0, _, h => by omega
 | 0, d, N + 1, h, _ => by
   rw [L_level_over_1_0_eq]
   obtain rfl : d = n := by omega
   simp [lubTo, lub]
 | m + 1, d, N + 1, h, hN => by
   have hd : d < 8 := by omega
   have ih := over1 (K := K) ha hb hc hn f x12 x13 m (d + 1) N (by omega) (by omega)
   rw [L_level_over_1_0_eq]
   have hlt : decide ((d : Int) < (n : Int)) = true := by simp; omega
   rw [lubTo_succ] at ih
   simp only [hlt, ifB_true, lt8 ha, lt8 hb, lt8 hc, lt8 hd, when_true', bT_ag, Int.toNat_natCast, Nat.zero_add, Nat.mul_one, bl64 ha hd, bl64 hb hd, bl64 hc hd, bT_cell f ha hd, bT_cell f hb hd, bT_cell f hc hd, isBool_bool, toBool_bool, wrn (show d < 1152921504606846976 by omega)]
   cases h0 : lubTo f a b c d with
   | false => rw [h0, Bool.false_and] at ih; rw [ifB_false]; exact ih
   | true =>
     rw [h0, Bool.true_and] at ih
     rw [ifB_true]
     cases h1 : f a d with
     | false => rw [h1] at ih; exact ih
     | true =>
       cases h2 : f b d with
       | false => rw [h1, h2] at ih; exact ih
       | true => rw [h1, h2] at ih; exact ih
theorem over2 {a b n K : Nat} (ha : a < 8) (hb : b < 8) (hn : n ≤ 8) (hK : 8 < K) (f : Tb) : ∀ (m c N : Nat), c + m = n → m < N →
   onL (L_level_over_2_0 Rt0 K true N n a b n c (bT f)) (K_level_over_2 Rt0 K true) = some ([.fz (.int .i64 (ovr f n a b m c))], [])
 | m, b, 0, _, h => by omega
 | 0, c, N + 1, h, _ => by
   rw [L_level_over_2_0_eq]
   simp [show ¬ ((c : Int) < (n : Int)) by omega, onL_some, X_level_over_2_0_eq, ovr]
 | m + 1, c, N + 1, h, hN => by
   have hc : c < 8 := by omega
   have ih := over2 (K := K) ha hb hn hK f m (c + 1) N (by omega) (by omega)
   rw [L_level_over_2_0_eq]
   have hlt : decide ((c : Int) < (n : Int)) = true := by simp; omega
   have h1 := over1 (K := K) ha hb hc hn f n c n 0 K (by omega) (by omega)
   have hl0 : lubTo f a b c 0 = true := rfl
   simp only [Int.natCast_zero, hl0] at h1
   simp only [hlt, ifB_true, lt8 ha, lt8 hb, lt8 hc, when_true', bT_ag, Int.toNat_natCast, Nat.zero_add, Nat.mul_one, bl64 ha hc, bl64 hb hc, bT_cell f ha hc, bT_cell f hb hc, isBool_bool, toBool_bool, wrn (show c < 1152921504606846976 by omega), ovr]
   cases q1 : f a c with
   | false => simpa using ih
   | true =>
     cases q2 : f b c with
     | false => simpa using ih
     | true =>
       simp only [Bool.not_true, ifB_false, jump_true, J_level_over_2_0_eq, h1, onL_some, X_level_over_1_0_eq, Bool.true_and, wrn (show c < 1152921504606846976 by omega)]
       cases q3 : lub f n a b c with
       | true => simp [onL_some, X_level_over_2_1_eq]
       | false => simpa using ih
theorem over_ok {a b n : Nat} (ha : a < 8) (hb : b < 8) (hn : n ≤ 8) (f : Tb) : Rt0 N_level_over [.fz (bT f), .fz (.int .i64 n), .fz (.int .i64 a), .fz (.int .i64 b)] = some ([.fz (.int .i64 (ovr f n a b n 0))], []) := by
 refine rt_call0 A_level_over rfl rfl 12 ?_
 rw [E_level_over, bT_fits, when_true']
 exact over2 ha hb hn (by omega) f n 0 12 (by omega) (by omega)
def tws1 (f : Tb) (a : Nat) : Nat → Nat → Bool
 | 0, _ => false
 | m + 1, b => (f a b && f b a) || tws1 f a m (b + 1)
def tws2 (f : Tb) : Nat → Nat → Bool
 | 0, _ => false
 | m + 1, a => tws1 f a a 0 || tws2 f m (a + 1)
theorem twisted1 {a K : Nat} (ha : a < 8) (f : Tb) (x7 x8 : Int) : ∀ (m b N : Nat), b + m = a → m < N →
   L_level_twisted_1_0 Rt0 K true N a x7 x8 a b (bT f) = some (match tws1 f a m b with | true => (.ret, X_level_twisted_1_0 true x7 x8 (bT f)) | false => (.exit 2, X_level_twisted_1_1 x7 x8 (bT f)))
 | m, b, 0, _, h => by omega
 | 0, b, N + 1, h, _ => by
   rw [L_level_twisted_1_0_eq]
   simp [show ¬ ((b : Int) < (a : Int)) by omega, tws1]
 | m + 1, b, N + 1, h, hN => by
   have hb : b < 8 := by omega
   have ih := twisted1 (K := K) ha f x7 x8 m (b + 1) N (by omega) (by omega)
   rw [L_level_twisted_1_0_eq]
   have hlt : decide ((b : Int) < (a : Int)) = true := by simp; omega
   simp only [hlt, ifB_true, lt8 ha, lt8 hb, when_true', bT_ag, Int.toNat_natCast, Nat.zero_add, Nat.mul_one, bl64 ha hb, bl64 hb ha, bT_cell f ha hb, bT_cell f hb ha, isBool_bool, toBool_bool, wrn (show b < 1152921504606846976 by omega), tws1, ih]
   cases q1 : f a b <;> cases q2 : f b a <;> simp
theorem twisted2 {n K : Nat} (hn : n ≤ 8) (hK : 8 < K) (f : Tb) : ∀ (m a N : Nat), a + m = n → m < N →
   onL (L_level_twisted_2_0 Rt0 K true N n a (bT f)) (K_level_twisted_2 Rt0 K true) = some ([.fz (.bool (tws2 f m a))], [])
 | m, a, 0, _, h => by omega
 | 0, a, N + 1, h, _ => by
   rw [L_level_twisted_2_0_eq]
   simp [show ¬ ((a : Int) < (n : Int)) by omega, tws2, onL_some, X_level_twisted_2_0_eq]
 | m + 1, a, N + 1, h, hN => by
   have ha : a < 8 := by omega
   have ih := twisted2 (K := K) hn hK f m (a + 1) N (by omega) (by omega)
   rw [L_level_twisted_2_0_eq]
   have hlt : decide ((a : Int) < (n : Int)) = true := by simp; omega
   have h1 := twisted1 (K := K) ha f n a a 0 K (by omega) (by omega)
   simp only [Int.natCast_zero] at h1
   simp only [hlt, ifB_true, h1, tws2]
   cases q : tws1 f a a 0 with
   | true => simp only [onL_some, X_level_twisted_1_0_eq, X_level_twisted_2_1_eq, Bool.true_or]
   | false => simp only [onL_some, X_level_twisted_1_1_eq, wrn (show a < 1152921504606846976 by omega), ih, Bool.false_or]
theorem twisted_ok {n : Nat} (hn : n ≤ 8) (f : Tb) : Rt0 N_level_twisted [.fz (bT f), .fz (.int .i64 n)] = some ([.fz (.bool (tws2 f n 0))], []) := by
 refine rt_call0 A_level_twisted rfl rfl 12 ?_
 rw [E_level_twisted, bT_fits, when_true']
 exact twisted2 hn (by omega) f n 0 12 (by omega) (by omega)
end Go.Ab
end
section
namespace Go.Ab
def allI (p : Nat → Bool) : Nat → Nat → Bool
 | 0, _ => true
 | m + 1, i => p i && allI p m (i + 1)
theorem allI_iff {p : Nat → Bool} : ∀ {m i : Nat}, allI p m i = true ↔ ∀ j, i ≤ j → j < i + m → p j = true
 | 0, i => by simp [allI]; intro j h1 h2; omega
 | m + 1, i => by
  simp only [allI, Bool.and_eq_true, allI_iff (m := m)]
  constructor
  ·rintro ⟨h1, h2⟩ j hj hm
   by_cases e : i = j
   ·subst e; exact h1
   ·exact h2 j (by omega) (by omega)
  ·intro h
   exact ⟨h i (by omega) (by omega), fun j h1 h2 => h j (by omega) (by omega)⟩
def byt (s : ByteArray) (i : Nat) : Nat := (Array.getD s.data i 0).toNat
def okC (s : ByteArray) (i : Nat) : Bool := (decide (97 ≤ byt s i) && decide (byt s i ≤ 122)) || ((decide (48 ≤ byt s i) && decide (byt s i ≤ 57)) && !(i == 0))
def nmB (s : ByteArray) : Bool := decide (1 ≤ s.size) && (decide (s.size ≤ 16) && allI (okC s) s.size 0)
theorem name1 {K : Nat} (s : ByteArray) (hs : s.size ≤ 16) : ∀ (m i N : Nat), i + m = s.size → m < N →
   onL (L_level_Name_1_0 Rt0 K true N s s.size i) (K_level_Name_1 Rt0 K true) = some ([.fz (.bool (allI (okC s) m i))], [])
 | m, b, 0, _, h => by omega
 | 0, i, N + 1, h, _ => by
   rw [L_level_Name_1_0_eq]
   simp [show ¬ ((i : Int) < (s.size : Int)) by omega, onL_some, X_level_Name_1_0_eq, allI]
 | m + 1, i, N + 1, h, hN => by
   have ih := name1 (K := K) s hs m (i + 1) N (by omega) (by omega)
   rw [L_level_Name_1_0_eq]
   have hlt : decide ((i : Int) < (s.size : Int)) = true := by simp; omega
   have h00 : decide ((0 : Int) ≤ (i : Int)) = true := by simp
   have hb : ((Array.getD (ByteArray.data s) i 0).toNat) = byt s i := rfl
   have w := wrn (show i < 1152921504606846976 by omega)
   have g1 : decide (((byt s i : Nat) : Int) ≥ 97) = decide (97 ≤ byt s i) := by rw [decide_eq_decide]; omega
   have g2 : decide (((byt s i : Nat) : Int) ≤ 122) = decide (byt s i ≤ 122) := by rw [decide_eq_decide]; omega
   have g3 : decide (((byt s i : Nat) : Int) ≥ 48) = decide (48 ≤ byt s i) := by rw [decide_eq_decide]; omega
   have g4 : decide (((byt s i : Nat) : Int) ≤ 57) = decide (byt s i ≤ 57) := by rw [decide_eq_decide]; omega
   have g5 : ((i : Int) == 0) = (i == 0) := by rw [Bool.eq_iff_iff]; simp
   simp only [hlt, h00, ifB_true, when_true', Bool.and_true, Int.toNat_natCast, hb, J_level_Name_2_0_eq, J_level_Name_1_0_eq, jump_true, w, g1, g2, g3, g4, g5, allI, okC]
   cases h1 : decide (97 ≤ byt s i) <;> cases h2 : decide (byt s i ≤ 122) <;> cases h3 : decide (48 ≤ byt s i) <;> cases h4 : decide (byt s i ≤ 57) <;> cases h5 : (i == 0) <;>
     simp only [ifB_true, ifB_false, Bool.not_true, Bool.not_false, Bool.true_and, Bool.and_true, Bool.false_and, Bool.and_false, Bool.true_or, Bool.or_true, Bool.false_or, Bool.or_false, onL_some, X_level_Name_1_1_eq, ih]
theorem Name_ok (s : ByteArray) : Rt0 N_level_Name [.fz (.str s)] = some ([.fz (.bool (nmB s))], []) := by
 refine rt_call0 A_level_Name rfl rfl 20 ?_
 rw [E_level_Name]
 have e0 : (s.toList == (⟨#[]⟩ : ByteArray).toList) = decide (s.size = 0) := by
  rw [bytes_beq, decide_eq_decide]
  constructor
  ·intro h; subst h; rfl
  ·intro h; cases s with | mk d => cases d with | mk l => cases l with | nil => rfl | cons a l => simp [ByteArray.size] at h
 rw [e0]
 unfold nmB
 by_cases h : s.size = 0
 ·simp [h]
 ·by_cases h2 : s.size ≤ 16
  ·have hg : decide ((s.size : Int) > 16) = false := by simp; omega
   have n1 := name1 (K := 20) s h2 s.size 0 20 (by omega) (by omega)
   simp only [Int.natCast_zero] at n1
   simp [h, hg, J_level_Name_5_0_eq, n1, h2, show 1 ≤ s.size by omega]
  ·have hg : decide ((s.size : Int) > 16) = true := by simp; omega
   simp [h, hg, h2]
def strs (l : List ByteArray) : List FV := l.map .str
@[simp] theorem strs_len (l : List ByteArray) : (strs l).length = l.length := by simp [strs]
theorem strs_get {l : List ByteArray} {i : Nat} (h : i < l.length) : (strs l).getD i .nilp = .str (l.getD i ByteArray.empty) := by simp [strs, h]
@[simp] theorem strs_fits (l : List ByteArray) : (strs l).all (FV.fits 1 false) = true := all_fits_str l
def anyI (p : Nat → Bool) : Nat → Nat → Bool
 | 0, _ => false
 | m + 1, i => p i || anyI p m (i + 1)
def isN (l : List ByteArray) (i j : Nat) : Bool := decide (l.getD i ByteArray.empty = l.getD j ByteArray.empty)
def namedB (l : List ByteArray) : Bool := decide (1 ≤ l.length) && (decide (l.length ≤ 8) && allI (fun i => nmB (l.getD i ByteArray.empty) && !anyI (isN l i) i 0) l.length 0)
theorem named1 {K : Nat} (l : List ByteArray) (i : Nat) (hi : i < l.length) (h8 : l.length ≤ 8) (x0 x15 : List FV) (x16 x17 : Int) : ∀ (m j N : Nat), j + m = i → m < N →
   L_level_named_1_0 Rt0 K true N x0 (l.getD i ByteArray.empty) x15 x16 x17 ((strs l).take i) i j = some (match anyI (isN l i) m j with | true => (.ret, X_level_named_1_0 x0 false x15 x16 x17) | false => (.exit 2, X_level_named_1_1 x0 x15 x16 x17))
 | m, b, 0, _, h => by omega
 | 0, j, N + 1, h, _ => by
   rw [L_level_named_1_0_eq]
   simp [show ¬ ((j : Int) < (i : Int)) by omega, anyI]
 | m + 1, j, N + 1, h, hN => by
   have ih := named1 (K := K) l i hi h8 x0 x15 x16 x17 m (j + 1) N (by omega) (by omega)
   rw [L_level_named_1_0_eq]
   have hlt : decide ((j : Int) < (i : Int)) = true := by simp; omega
   have h00 : decide ((0 : Int) ≤ (j : Int)) = true := by simp
   have hlen : ((strs l).take i).length = i := by simp; omega
   have hg : ((strs l).take i).getD j .nilp = .str (l.getD j ByteArray.empty) := by
     rw [List.getD_eq_getElem?_getD, List.getElem?_take, if_pos (by omega), ← List.getD_eq_getElem?_getD, strs_get (by omega)]
   have w := wrn (show j < 1152921504606846976 by omega)
   simp only [hlen, hlt, h00, hg, ifB_true, when_true', Bool.and_true, Int.toNat_natCast, fits_str, isStr_str, toStr_str, w, ih, bytes_beq, anyI, isN]
   cases decide (l.getD i ByteArray.empty = l.getD j ByteArray.empty) <;> simp only [ifB_true, ifB_false, Bool.true_or, Bool.false_or]
theorem named2 {K : Nat} (l : List ByteArray) (h8 : l.length ≤ 8) (hK : 8 < K) : ∀ (m i N : Nat), i + m = l.length → m < N →
   onL (L_level_named_2_0 Rt0 K true N (strs l) (strs l) l.length i) (K_level_named_2 Rt0 K true) = some ([.fz (.bool (allI (fun i => nmB (l.getD i ByteArray.empty) && !anyI (isN l i) i 0) m i))], [])
 | m, b, 0, _, h => by omega
 | 0, i, N + 1, h, _ => by
   rw [L_level_named_2_0_eq]
   simp [show ¬ ((i : Int) < (l.length : Int)) by omega, onL_some, X_level_named_2_1_eq, allI]
 | m + 1, i, N + 1, h, hN => by
   have ih := named2 (K := K) l h8 hK m (i + 1) N (by omega) (by omega)
   rw [L_level_named_2_0_eq]
   have hlt : decide ((i : Int) < (l.length : Int)) = true := by simp; omega
   have hle : decide ((i : Int) ≤ (l.length : Int)) = true := by simp; omega
   have h00 : decide ((0 : Int) ≤ (i : Int)) = true := by simp
   have h01 : decide ((0 : Int) ≤ (0 : Int)) = true := by simp
   have hlen : ((strs l).take i).length = i := by simp; omega
   have n1 := named1 (K := K) l i (by omega) h8 (strs l) (strs l) l.length i i 0 K (by omega) (by omega)
   simp only [Int.natCast_zero] at n1
   have w := wrn (show i < 1152921504606846976 by omega)
   simp only [strs_len, hlt, hle, h00, Nat.le_refl, decide_true, strs_get (show i < l.length by omega), ifB_true, when_true', Bool.and_true, Int.toNat_natCast, fits_str, isStr_str, toStr_str, w, Name_ok, onR_some, List.isEmpty_nil, allF_cons, allF_nil, Bool.true_and, List.getD_cons_zero, toF_fz, isBool_bool, toBool_bool, strs_fits, List.drop_zero, hlen, n1, allI]
   cases nmB (l.getD i ByteArray.empty) with
   | false => simp only [Bool.not_false, ifB_true, onL_some, X_level_named_2_0_eq, Bool.false_and]
   | true =>
     simp only [Bool.not_true, ifB_false, Bool.true_and]
     cases anyI (isN l i) i 0 with
     | true => simp only [onL_some, X_level_named_1_0_eq, X_level_named_2_0_eq, Bool.not_true, Bool.false_and]
     | false => simp only [onL_some, X_level_named_1_1_eq, w, ih, Bool.not_false, Bool.true_and]
theorem named_ok (l : List ByteArray) : Rt0 N_level_named [.fz (.sl (strs l))] = some ([.fz (.bool (namedB l))], []) := by
 refine rt_call0 A_level_named rfl rfl 12 ?_
 rw [E_level_named, strs_len]
 unfold namedB
 by_cases h1 : 1 ≤ l.length
 ·have g1 : decide ((l.length : Int) < 1) = false := by simp; omega
  by_cases h2 : l.length ≤ 8
  ·have g2 : decide ((l.length : Int) > 8) = false := by simp; omega
   have n2 := named2 (K := 12) l h2 (by omega) l.length 0 12 (by omega) (by omega)
   simp only [Int.natCast_zero] at n2
   rw [g1, g2, ifB_false, ifB_false, jump_true, J_level_named_3_0_eq, strs_len, n2]
   simp [h1, h2]
  ·have g2 : decide ((l.length : Int) > 8) = true := by simp; omega
   simp [g1, g2, h2]
 ·have g1 : decide ((l.length : Int) < 1) = true := by simp; omega
  simp [g1, h1]
def prs (l : List (Int × Int)) : List FV := l.map fun p => .ag [.int .i64 p.1, .int .i64 p.2]
@[simp] theorem prs_len (l : List (Int × Int)) : (prs l).length = l.length := by simp [prs]
theorem prs_get {l : List (Int × Int)} {i : Nat} (h : i < l.length) : (prs l).getD i .nilp = .ag [.int .i64 (l.getD i (0, 0)).1, .int .i64 (l.getD i (0, 0)).2] := by simp [prs, h]
def diag (n : Nat) : Tb := fun x y => decide (x = y) && decide (x < n)
theorem diag_succ (a : Nat) : bT (upd2 (diag a) a a true) = bT (diag (a + 1)) := bT_eq fun x y _ _ => by
 unfold upd2 diag
 by_cases e : x = a ∧ y = a
 ·rw [if_pos e, e.1, e.2]; simp
 ·rw [if_neg e, Bool.eq_iff_iff]; simp; omega
theorem laid1 {n K : Nat} (hn : n ≤ 8) (x1 : List FV) (y : FV) : ∀ (m a N : Nat), a + m = n → m < N →
   L_level_laid_1_0 Rt0 K true N n x1 n a y (bT (diag a)) = some (.exit 0, X_level_laid_1_0 n x1 y (bT (diag n)))
 | m, b, 0, _, h => by omega
 | 0, a, N + 1, h, _ => by
   rw [L_level_laid_1_0_eq]
   obtain rfl : a = n := by omega
   simp
 | m + 1, a, N + 1, h, hN => by
   have ha : a < 8 := by omega
   have ih := laid1 (K := K) hn x1 y m (a + 1) N (by omega) (by omega)
   rw [L_level_laid_1_0_eq]
   have hlt : decide ((a : Int) < (n : Int)) = true := by simp; omega
   simp only [hlt, ifB_true, lt8 ha, when_true', bT_ag, Int.toNat_natCast, Nat.zero_add, Nat.mul_one, bl64 ha ha, bT_set _ ha ha, diag_succ, Bool.and_true, wrn (show a < 1152921504606846976 by omega), ih]
def inP (n : Nat) (p : Int × Int) : Bool := !(decide (p.1 < 0)) && (!(decide (p.1 ≥ n)) && (!(decide (p.2 < 0)) && !(decide (p.2 ≥ n))))
theorem inP_iff {n : Nat} {p : Int × Int} : inP n p = true ↔ 0 ≤ p.1 ∧ p.1 < n ∧ 0 ≤ p.2 ∧ p.2 < n := by simp [inP]
def layP (f : Tb) (l : List (Int × Int)) : Tb := l.foldl (fun f p => upd2 f p.1.toNat p.2.toNat true) f
theorem layP_iff : ∀ {l : List (Int × Int)} {f : Tb} {x y : Nat}, layP f l x y = true ↔ f x y = true ∨ ∃ p ∈ l, p.1.toNat = x ∧ p.2.toNat = y
 | [], f, x, y => by simp [layP]
 | p :: l, f, x, y => by
  show layP (upd2 f p.1.toNat p.2.toNat true) l x y = true ↔ _
  rw [layP_iff (l := l)]
  unfold upd2
  by_cases e : x = p.1.toNat ∧ y = p.2.toNat
  ·rw [if_pos e]
   constructor
   ·rintro _; exact .inr ⟨p, List.mem_cons_self .., e.1.symm, e.2.symm⟩
   ·rintro _; exact .inl rfl
  ·rw [if_neg e]
   constructor
   ·rintro (h | ⟨q, hq, h⟩)
    ·exact .inl h
    ·exact .inr ⟨q, List.mem_cons_of_mem _ hq, h⟩
   ·rintro (h | ⟨q, hq, h⟩)
    ·exact .inl h
    ·rcases List.mem_cons.1 hq with rfl | hq
     ·exact absurd ⟨h.1.symm, h.2.symm⟩ e
     ·exact .inr ⟨q, hq, h⟩
theorem laid2 {n K : Nat} (hn : n ≤ 8) (l : List (Int × Int)) (h64 : l.length ≤ 64) (y : FV) : ∀ (m i N : Nat) (f : Tb), i + m = l.length → m < N →
   ∃ g, onL (L_level_laid_2_0 Rt0 K true N n (prs l) l.length i y (bT f)) (K_level_laid_2 Rt0 K true) = some ([.fz g, .fz (.bool ((l.drop i).all (inP n)))], []) ∧ FV.fits 64 true g = true ∧ ((l.drop i).all (inP n) = true → g = bT (layP f (l.drop i)))
 | m, b, 0, f, _, h => by omega
 | 0, i, N + 1, f, h, _ => by
   rw [L_level_laid_2_0_eq, List.drop_eq_nil_of_le (by omega)]
   exact ⟨bT f, by simp [show ¬ ((i : Int) < (l.length : Int)) by omega, onL_some, X_level_laid_2_1_eq], by simp, fun _ => rfl⟩
 | m + 1, i, N + 1, f, h, hN => by
   have hi : i < l.length := by omega
   have hd : l.drop i = l.getD i (0, 0) :: l.drop (i + 1) := by
     rw [List.drop_eq_getElem_cons hi]; simp [hi]
   rw [L_level_laid_2_0_eq, hd]
   have hlt : decide ((i : Int) < (l.length : Int)) = true := by simp; omega
   have h00 : decide ((0 : Int) ≤ (i : Int)) = true := by simp
   simp only [prs_len, hlt, h00, prs_get hi, ifB_true, when_true', Bool.and_true, Int.toNat_natCast, fits_ag, isAg_ag, cell_ag, List.length_cons, List.length_nil, List.getD_cons_zero, List.getD_cons_succ, isInt_int, toInt_int, beq_self_eq_true, bT_fits, List.all_cons]
   generalize hp : l.getD i (0, 0) = p
   by_cases q : inP n p = true
   · obtain ⟨q1, q2, q3, q4⟩ := inP_iff.1 q
     have d1 : decide (p.1 < 0) = false := by simp; omega
     have d2 : decide (p.1 ≥ n) = false := by simp; omega
     have d3 : decide (p.2 < 0) = false := by simp; omega
     have d4 : decide (p.2 ≥ n) = false := by simp; omega
     have a1 : p.1.toNat < 8 := by omega
     have a2 : p.2.toNat < 8 := by omega
     have b1 : (decide (0 ≤ p.1) && decide (p.1 < 8)) = true := by simp; omega
     have b2 : (decide (0 ≤ p.2) && decide (p.2 < 8)) = true := by simp; omega
     obtain ⟨g, h1, h2, h3⟩ := laid2 (K := K) hn l h64 y m (i + 1) N (upd2 f p.1.toNat p.2.toNat true) (by omega) (by omega)
     refine ⟨g, ?_, h2, ?_⟩
     · simp only [d1, d2, d3, d4, ifB_false, jump_true, J_level_laid_1_0_eq, isAg_ag, cell_ag, List.length_cons, List.length_nil, List.getD_cons_zero, List.getD_cons_succ, isInt_int, toInt_int, beq_self_eq_true, when_true', b1, b2, bT_ag, Bool.and_true, Nat.zero_add, Nat.mul_one, bl64 a1 a2, bT_set f a1 a2, wrn (show i < 1152921504606846976 by omega), h1, q, Bool.true_and]
     · rw [q, Bool.true_and]; exact h3
   · have q : inP n p = false := by simpa using q
     refine ⟨bT f, ?_, by simp, by rw [q]; simp⟩
     rw [q, Bool.false_and]
     by_cases d1 : p.1 < 0
     · simp [d1, onL_some, X_level_laid_2_0_eq]
     · by_cases d2 : p.1 ≥ n
       · simp [d1, d2, onL_some, X_level_laid_2_0_eq]
       · by_cases d3 : p.2 < 0
         · simp [d1, d2, d3, onL_some, X_level_laid_2_0_eq]
         · by_cases d4 : p.2 ≥ n
           · simp [d1, d2, d3, d4, onL_some, X_level_laid_2_0_eq]
           · simp [inP, d1, d2, d3, d4] at q
def laidB (n : Nat) (l : List (Int × Int)) : Bool := decide (l.length ≤ 64) && l.all (inP n)
theorem laid_ok {n : Nat} (hn : n ≤ 8) (l : List (Int × Int)) : ∃ g, Rt0 N_level_laid [.fz (.int .i64 n), .fz (.sl (prs l))] = some ([.fz g, .fz (.bool (laidB n l))], []) ∧ FV.fits 64 true g = true ∧ (laidB n l = true → g = bT (layP (diag n) l)) := by
 by_cases h : l.length ≤ 64
 ·have hd : bT zT = bT (diag 0) := bT_eq fun a b _ _ => by simp [zT, diag]
  obtain ⟨g, h1, h2, h3⟩ := laid2 (K := 70) hn l h (bT zT) l.length 0 70 (diag n) (by omega) (by omega)
  simp only [Int.natCast_zero, List.drop_zero] at h1 h3
  have hb : laidB n l = l.all (inP n) := by simp [laidB, h]
  refine ⟨g, ?_, h2, by rw [hb]; exact h3⟩
  refine rt_call0 A_level_laid rfl rfl 70 ?_
  have hg : decide ((l.length : Int) > 64) = false := by simp; omega
  have h0 := laid1 (K := 70) hn (prs l) (bT zT) n 0 70 (by omega) (by omega)
  simp only [Int.natCast_zero] at h0
  rw [← hd] at h0
  rw [E_level_laid, prs_len, hg, ifB_false, z64, h0, onL_some, X_level_laid_1_0_eq, prs_len, h1, hb]
 ·have hb : laidB n l = false := by simp [laidB, h]
  refine ⟨bT zT, ?_, by simp, by rw [hb]; simp⟩
  refine rt_call0 A_level_laid rfl rfl 70 ?_
  have hg : decide ((l.length : Int) > 64) = true := by simp; omega
  rw [E_level_laid, prs_len, hg, ifB_true, z64, hb]
end Go.Ab
end
section
namespace Go.Ab
abbrev Ti := Nat → Nat → Int
def updI (f : Ti) (a b : Nat) (v : Int) : Ti := fun x y => if x = a ∧ y = b then v else f x y
def latC (nm : List FV) (f : Tb) (J M : Ti) (b t : Int) (i : Nat) : FV :=
 if i = 0 then .sl nm else if i < 65 then .bool (f ((i - 1) / 8) ((i - 1) % 8)) else if i < 129 then .int .i64 (J ((i - 65) / 8) ((i - 65) % 8)) else
 if i < 193 then .int .i64 (M ((i - 129) / 8) ((i - 129) % 8)) else if i = 193 then .int .i64 b else .int .i64 t
def latE (nm : List FV) (f : Tb) (J M : Ti) (b t : Int) : FV := .ag ((List.range 195).map (latC nm f J M b t))
section
variable (nm : List FV) (f : Tb) (J M : Ti) (b t : Int)
@[simp] theorem latE_ag : FV.isAg 195 (latE nm f J M b t) = true := by simp [latE]
theorem latE_cell {i : Nat} (h : i < 195) : FV.cell (latE nm f J M b t) i = latC nm f J M b t i := by simp [latE, h]
theorem latE_0 : FV.cell (latE nm f J M b t) 0 = .sl nm := by rw [latE_cell _ _ _ _ _ _ (by omega)]; rfl
theorem latE_l {x y : Nat} (hx : x < 8) (hy : y < 8) : FV.cell (latE nm f J M b t) (1 + x * 8 + y) = .bool (f x y) := by
 rw [latE_cell _ _ _ _ _ _ (by omega)]
 unfold latC
 rw [if_neg (by omega), if_pos (by omega), show (1 + x * 8 + y - 1) / 8 = x by omega, show (1 + x * 8 + y - 1) % 8 = y by omega]
theorem latE_J {x y : Nat} (hx : x < 8) (hy : y < 8) : FV.cell (latE nm f J M b t) (65 + x * 8 + y) = .int .i64 (J x y) := by
 rw [latE_cell _ _ _ _ _ _ (by omega)]
 unfold latC
 rw [if_neg (by omega), if_neg (by omega), if_pos (by omega), show (65 + x * 8 + y - 65) / 8 = x by omega, show (65 + x * 8 + y - 65) % 8 = y by omega]
theorem latE_M {x y : Nat} (hx : x < 8) (hy : y < 8) : FV.cell (latE nm f J M b t) (129 + x * 8 + y) = .int .i64 (M x y) := by
 rw [latE_cell _ _ _ _ _ _ (by omega)]
 unfold latC
 rw [if_neg (by omega), if_neg (by omega), if_neg (by omega), if_pos (by omega), show (129 + x * 8 + y - 129) / 8 = x by omega, show (129 + x * 8 + y - 129) % 8 = y by omega]
theorem latE_b : FV.cell (latE nm f J M b t) 193 = .int .i64 b := by rw [latE_cell _ _ _ _ _ _ (by omega)]; rfl
theorem latE_t : FV.cell (latE nm f J M b t) 194 = .int .i64 t := by rw [latE_cell _ _ _ _ _ _ (by omega)]; rfl
theorem latE_leq : FV.ag (List.map (fun j => FV.cell (latE nm f J M b t) (1 + j)) (List.range 64)) = bT f := by
 unfold bT
 congr 1
theorem latE_set {i : Nat} {v : FV} (hi : i < 195) {J' M' : Ti} {b' t' : Int} (h : ∀ j, j < 195 → latC nm f J' M' b' t' j = if i = j then v else latC nm f J M b t j) :
   FV.ag (List.set (FV.toAg (latE nm f J M b t)) i v) = latE nm f J' M' b' t' := by
 unfold latE
 simp only [toAg_ag]
 congr 1
 apply List.ext_getElem (by simp)
 intro j h1 h2
 have hj : j < 195 := by simpa using h2
 rw [List.getElem_set]
 simp only [List.getElem_map, List.getElem_range]
 exact (h j hj).symm
theorem latE_setJ {x y : Nat} (hx : x < 8) (hy : y < 8) (v : Int) : FV.ag (List.set (FV.toAg (latE nm f J M b t)) (65 + x * 8 + y) (.int .i64 v)) = latE nm f (updI J x y v) M b t := by
 refine latE_set nm f J M b t (by omega) fun j hj => ?_
 unfold latC
 by_cases h0 : j = 0
 ·rw [if_pos h0, if_pos h0, if_neg (by omega)]
 rw [if_neg h0, if_neg h0]
 by_cases h1 : j < 65
 ·rw [if_pos h1, if_pos h1, if_neg (by omega)]
 rw [if_neg h1, if_neg h1]
 by_cases h2 : j < 129
 ·rw [if_pos h2, if_pos h2]
  unfold updI
  by_cases e : 65 + x * 8 + y = j
  ·rw [if_pos e, if_pos (by omega)]
  ·rw [if_neg e, if_neg (by omega)]
 rw [if_neg h2, if_neg h2, if_neg (show ¬ 65 + x * 8 + y = j by omega)]
theorem latE_setM {x y : Nat} (hx : x < 8) (hy : y < 8) (v : Int) : FV.ag (List.set (FV.toAg (latE nm f J M b t)) (129 + x * 8 + y) (.int .i64 v)) = latE nm f J (updI M x y v) b t := by
 refine latE_set nm f J M b t (by omega) fun j hj => ?_
 unfold latC
 by_cases h0 : j = 0
 ·rw [if_pos h0, if_pos h0, if_neg (by omega)]
 rw [if_neg h0, if_neg h0]
 by_cases h1 : j < 65
 ·rw [if_pos h1, if_pos h1, if_neg (by omega)]
 rw [if_neg h1, if_neg h1]
 by_cases h2 : j < 129
 ·rw [if_pos h2, if_pos h2, if_neg (by omega)]
 rw [if_neg h2, if_neg h2]
 by_cases h3 : j < 193
 ·rw [if_pos h3, if_pos h3]
  unfold updI
  by_cases e : 129 + x * 8 + y = j
  ·rw [if_pos e, if_pos (by omega)]
  ·rw [if_neg e, if_neg (by omega)]
 rw [if_neg h3, if_neg h3, if_neg (show ¬ 129 + x * 8 + y = j by omega)]
theorem latE_setb (v : Int) : FV.ag (List.set (FV.toAg (latE nm f J M b t)) 193 (.int .i64 v)) = latE nm f J M v t := by
 refine latE_set nm f J M b t (by omega) fun j hj => ?_
 unfold latC
 by_cases h0 : j = 193
 ·subst h0; rfl
 ·rw [if_neg (show ¬ 193 = j by omega), if_neg h0, if_neg h0]
theorem latE_sett (v : Int) : FV.ag (List.set (FV.toAg (latE nm f J M b t)) 194 (.int .i64 v)) = latE nm f J M b v := by
 refine latE_set nm f J M b t (by omega) fun j hj => ?_
 unfold latC
 by_cases h0 : j = 194
 ·subst h0; rfl
 ·rw [if_neg (show ¬ 194 = j by omega)]
  by_cases h1 : j = 193
  ·subst h1; rfl
  ·rw [if_pos (show j < 193 by omega), if_pos (show j < 193 by omega)]
end
def trn (f : Tb) : Tb := fun a b => f b a
def JT (f : Tb) (n a b : Nat) : Ti := fun x y => if (x < a ∧ y < n) ∨ (x = a ∧ y < b) then ovr f n x y n 0 else 0
theorem JT_upd (f : Tb) (n a b : Nat) : updI (JT f n a b) a b (ovr f n a b n 0) = JT f n a (b + 1) := by
 funext x y
 unfold updI JT
 by_cases e : x = a ∧ y = b
 ·rw [if_pos e, if_pos (by omega), e.1, e.2]
 ·rw [if_neg e]
  by_cases h : (x < a ∧ y < n) ∨ (x = a ∧ y < b)
  ·rw [if_pos h, if_pos (by omega)]
  ·rw [if_neg h, if_neg (by omega)]
theorem JT_next (f : Tb) (n a : Nat) : JT f n a n = JT f n (a + 1) 0 := by
 funext x y
 unfold JT
 by_cases h : (x < a ∧ y < n) ∨ (x = a ∧ y < n)
 ·rw [if_pos h, if_pos (by omega)]
 ·rw [if_neg h, if_neg (by omega)]
def okAB (f : Tb) (n a b : Nat) : Bool := !decide (ovr f n a b n 0 < 0) && !decide (ovr (trn f) n a b n 0 < 0)
theorem ovr_range (f : Tb) (n a b : Nat) : ∀ m c, c + m = n → ovr f n a b m c = -1 ∨ ((0 : Int) ≤ ovr f n a b m c ∧ ovr f n a b m c < n)
 | 0, c, _ => .inl rfl
 | m + 1, c, h => by
  simp only [ovr]
  split
  ·right; constructor <;> omega
  ·exact ovr_range f n a b m (c + 1) (by omega)
theorem lt195J {x y : Nat} (hx : x < 8) (hy : y < 8) : Nat.blt (65 + x * 8 + y) 195 = true := by rw [Nat.blt_eq]; omega
theorem lt195M {x y : Nat} (hx : x < 8) (hy : y < 8) : Nat.blt (129 + x * 8 + y) 195 = true := by rw [Nat.blt_eq]; omega
theorem fill1 {a n K : Nat} (ha : a < 8) (hn : n ≤ 8) (nm : List FV) (f : Tb) (x14 x15 : Int) : ∀ (m b N : Nat), b + m = n → m < N →
   ∃ e', L_level_Lattice_fill_1_0 Rt0 K true N n a x14 x15 n b (latE nm f (JT f n a b) (JT (trn f) n a b) 0 0) (bT (trn f)) =
     some (match allI (okAB f n a) m b with
       | true => (.exit 2, X_level_Lattice_fill_1_1 n x14 x15 (latE nm f (JT f n a n) (JT (trn f) n a n) 0 0) (bT (trn f)))
       | false => (.ret, X_level_Lattice_fill_1_0 n false x14 x15 e' (bT (trn f))))
 | m, b, 0, _, h => by omega
 | 0, b, N + 1, h, _ => by
   rw [L_level_Lattice_fill_1_0_eq]
   obtain rfl : b = n := by omega
   exact ⟨.nilp, by simp [allI]⟩
 | m + 1, b, N + 1, h, hN => by
   have hb : b < 8 := by omega
   obtain ⟨e', ih⟩ := fill1 (K := K) ha hn nm f x14 x15 m (b + 1) N (by omega) (by omega)
   have hlt : decide ((b : Int) < (n : Int)) = true := by simp; omega
   have h00 : decide ((0 : Int) ≤ (b : Int)) = true := by simp
   refine ⟨if okAB f n a b = true then e' else (latE nm f (JT f n a (b + 1)) (JT (trn f) n a (b + 1)) 0 0), ?_⟩
   rw [L_level_Lattice_fill_1_0_eq]
   have o1 := over_ok ha hb hn f
   have o2 := over_ok ha hb hn (trn f)
   have g1 : updI (JT f n a b) a b (ovr f n a b n 0) a b = ovr f n a b n 0 := by simp [updI]
   simp only [hlt, ifB_true, latE_ag, when_true', latE_leq, o1, o2, onR_some, List.isEmpty_nil, allF_cons, allF_nil, Bool.and_true, Bool.true_and, List.getD_cons_zero, toF_fz, isInt_int, toInt_int, lt8 ha, lt8 hb, Int.toNat_natCast, Nat.mul_one, lt195J ha hb, lt195M ha hb, latE_setJ _ _ _ _ _ _ ha hb, latE_setM _ _ _ _ _ _ ha hb, latE_J _ _ _ _ _ _ ha hb, latE_M _ _ _ _ _ _ ha hb, JT_upd, wrn (show b < 1152921504606846976 by omega), ih, allI]
   have q1 : JT f n a (b + 1) a b = ovr f n a b n 0 := by simp [JT]
   have q2 : JT (trn f) n a (b + 1) a b = ovr (trn f) n a b n 0 := by simp [JT]
   rw [q1, q2]
   unfold okAB
   cases d1 : decide (ovr f n a b n 0 < 0) <;> cases d2 : decide (ovr (trn f) n a b n 0 < 0) <;> simp only [ifB_true, ifB_false, Bool.not_true, Bool.not_false, Bool.true_and, Bool.false_and, Bool.and_false, Bool.and_true, if_true, Bool.false_eq_true, if_false]
def botF (M : Ti) : Nat → Nat → Nat → Nat
 | 0, _, b => b
 | m + 1, a, b => botF M m (a + 1) (M b a).toNat
theorem fill3 {n K : Nat} (hn : n ≤ 8) (nm : List FV) (f : Tb) (J M : Ti) (hJ : ∀ a b, a < n → b < n → 0 ≤ J a b ∧ J a b < n) (hM : ∀ a b, a < n → b < n → 0 ≤ M a b ∧ M a b < n) : ∀ (m a N b t : Nat), b < n → t < n → a + m = n → m < N →
   L_level_Lattice_fill_3_0 Rt0 K true N n a (latE nm f J M b t) = some (.exit 4, X_level_Lattice_fill_3_0 (latE nm f J M (botF M m a b) (botF J m a t)))
 | m, b, 0, _, _, _, _, _, h => by omega
 | 0, a, N + 1, b, t, hb, ht, h, _ => by
   rw [L_level_Lattice_fill_3_0_eq]
   obtain rfl : a = n := by omega
   simp [botF]
 | m + 1, a, N + 1, b, t, hb, ht, h, hN => by
   have ha : a < 8 := by omega
   have hb8 : b < 8 := by omega
   have ht8 : t < 8 := by omega
   obtain ⟨m1, m2⟩ := hM b a hb (by omega)
   obtain ⟨j1, j2⟩ := hJ t a ht (by omega)
   have ih := fill3 (K := K) hn nm f J M hJ hM m (a + 1) N (M b a).toNat (J t a).toNat (by omega) (by omega) (by omega) (by omega)
   rw [Int.toNat_of_nonneg m1, Int.toNat_of_nonneg j1] at ih
   have hlt : decide ((a : Int) < (n : Int)) = true := by simp; omega
   rw [L_level_Lattice_fill_3_0_eq]
   simp only [hlt, ifB_true, latE_ag, when_true', latE_b, latE_t, isInt_int, toInt_int, lt8 ha, lt8 hb8, lt8 ht8, Int.toNat_natCast, Nat.mul_one, lt195J ht8 ha, lt195M hb8 ha, latE_M _ _ _ _ _ _ hb8 ha, latE_J _ _ _ _ _ _ ht8 ha, latE_setb, latE_sett, Bool.and_true, wrn (show a < 1152921504606846976 by omega), ih, botF]
def fillB (f : Tb) (n : Nat) : Bool := allI (fun a => allI (okAB f n a) n 0) n 0
theorem fillB_iff {f : Tb} {n : Nat} : fillB f n = true ↔ ∀ a b, a < n → b < n → 0 ≤ ovr f n a b n 0 ∧ 0 ≤ ovr (trn f) n a b n 0 := by
 unfold fillB
 rw [allI_iff]
 constructor
 ·intro h a b ha hb
  have h1 := h a (by omega) (by omega)
  rw [allI_iff] at h1
  have h2 := h1 b (by omega) (by omega)
  simp [okAB] at h2
  omega
 ·intro h a _ ha
  rw [allI_iff]
  intro b _ hb
  have := h a b (by omega) (by omega)
  simp [okAB]; omega
theorem fill2 {n K : Nat} (hn : n ≤ 8) (hK : 9 < K) (h1 : 1 ≤ n) (nm : List FV) (f : Tb) : ∀ (m a N : Nat), a + m = n → (∀ x y, x < a → y < n → okAB f n x y = true) → m < N →
   ∃ e', onL (L_level_Lattice_fill_2_0 Rt0 K true N n n a (latE nm f (JT f n a 0) (JT (trn f) n a 0) 0 0) (bT (trn f))) (K_level_Lattice_fill_2 Rt0 K true) =
     some ([.fz (.bool (allI (fun a => allI (okAB f n a) n 0) m a))], [.fz e']) ∧ (allI (fun a => allI (okAB f n a) n 0) m a = true → e' = latE nm f (JT f n n 0) (JT (trn f) n n 0) (botF (JT (trn f) n n 0) n 0 0) (botF (JT f n n 0) n 0 0))
 | m, b, 0, _, _, h => by omega
 | 0, a, N + 1, h, hok, _ => by
   obtain rfl : a = n := by omega
   have hR : ∀ g : Tb, (∀ x y, x < a → y < a → 0 ≤ ovr g a x y a 0) → ∀ x y, x < a → y < a → 0 ≤ JT g a a 0 x y ∧ JT g a a 0 x y < a := fun g hg x y hx hy => by
     have : JT g a a 0 x y = ovr g a x y a 0 := by simp [JT, hx, hy]
     rw [this]
     have := hg x y hx hy
     rcases ovr_range g a x y a 0 (by omega) with h | h <;> omega
   have f3 := fill3 (K := K) hn nm f (JT f a a 0) (JT (trn f) a a 0) (hR f fun x y hx hy => by have := hok x y hx hy; simp [okAB] at this; omega) (hR (trn f) fun x y hx hy => by have := hok x y hx hy; simp [okAB] at this; omega) a 0 K 0 0 (by omega) (by omega) (by omega) (by omega)
   simp only [Int.natCast_zero] at f3
   refine ⟨_, ?_, fun _ => rfl⟩
   rw [L_level_Lattice_fill_2_0_eq]
   simp only [show decide ((a : Int) < (a : Int)) = false by simp, ifB_false, onL_some, X_level_Lattice_fill_2_0_eq, f3, X_level_Lattice_fill_3_0_eq, allI]
 | m + 1, a, N + 1, h, hok, hN => by
   have ha : a < 8 := by omega
   have hlt : decide ((a : Int) < (n : Int)) = true := by simp; omega
   obtain ⟨e1, f1⟩ := fill1 (K := K) ha hn nm f n a n 0 K (by omega) (by omega)
   simp only [Int.natCast_zero] at f1
   rw [L_level_Lattice_fill_2_0_eq]
   simp only [hlt, ifB_true, f1, allI]
   cases q : allI (okAB f n a) n 0 with
   | false =>
     refine ⟨e1, ?_, by simp⟩
     simp only [onL_some, X_level_Lattice_fill_1_0_eq, X_level_Lattice_fill_2_1_eq, Bool.false_and]
   | true =>
     obtain ⟨e', h2, h3⟩ := fill2 (K := K) hn hK h1 nm f m (a + 1) N (by omega) (fun x y hx hy => by
       by_cases e : x = a
       · subst e; exact allI_iff.1 q y (by omega) (by omega)
       · exact hok x y (by omega) hy) (by omega)
     refine ⟨e', ?_, by simpa using h3⟩
     rw [JT_next, JT_next]
     simp only [onL_some, X_level_Lattice_fill_1_1_eq, wrn (show a < 1152921504606846976 by omega), h2, Bool.true_and]
theorem fill_ok {n : Nat} (hn : n ≤ 8) (h1 : 1 ≤ n) (nm : List FV) (f : Tb) : ∃ e', Rt0 N_level_Lattice_fill [.pv 195 true (.fz (latE nm f (fun _ _ => 0) (fun _ _ => 0) 0 0)), .fz (.int .i64 n)] = some ([.fz (.bool (fillB f n))], [.fz e']) ∧
   (fillB f n = true → e' = latE nm f (JT f n n 0) (JT (trn f) n n 0) (botF (JT (trn f) n n 0) n 0 0) (botF (JT f n n 0) n 0 0)) := by
 have h0 : ∀ g : Tb, JT g n 0 0 = fun _ _ => 0 := fun g => by funext x y; simp [JT]
 obtain ⟨e', h2, h3⟩ := fill2 (K := 12) hn (by omega) h1 nm f n 0 12 (by omega) (fun x y hx => by omega) (by omega)
 rw [h0, h0] at h2
 simp only [Int.natCast_zero] at h2
 refine ⟨e', ?_, h3⟩
 refine rt_call0 A_level_Lattice_fill rfl rfl 12 ?_
 have ht : Rt0 N_level_turned [.fz (bT f)] = some ([.fz (bT (trn f))], []) := turned_ok f
 rw [E_level_Lattice_fill, latE_ag, when_true', latE_leq, ht]
 simp only [onR_some, List.isEmpty_nil, allF_cons, allF_nil, Bool.and_true, when_true', List.getD_cons_zero, toF_fz, bT_fits, h2]
 rfl
end Go.Ab
end
section
namespace Go.Ab
def polE (names : List ByteArray) (pairs : List (Int × Int)) (pp : List FV) : FV := .ag [.sl (strs names), .sl (prs pairs), .sl pp]
def latR (names : List ByteArray) (g : Tb) : FV := latE (strs names) g (JT g names.length names.length 0) (JT (trn g) names.length names.length 0) (botF (JT (trn g) names.length names.length 0) names.length 0 0) (botF (JT g names.length names.length 0) names.length 0 0)
def newC (names : List ByteArray) (pairs : List (Int × Int)) (g : Tb) : Int :=
 match namedB names with
 | false => 10
 | true => match laidB names.length pairs with
  | false => 2
  | true => match tws2 g names.length 0 with
   | true => 9
   | false => match fillB g names.length with
    | false => 9
    | true => 0
theorem ag64 (g : Tb) : FV.ag [FV.cell (bT g) 0, FV.cell (bT g) 1, FV.cell (bT g) 2, FV.cell (bT g) 3, FV.cell (bT g) 4, FV.cell (bT g) 5, FV.cell (bT g) 6, FV.cell (bT g) 7, FV.cell (bT g) 8, FV.cell (bT g) 9, FV.cell (bT g) 10, FV.cell (bT g) 11, FV.cell (bT g) 12, FV.cell (bT g) 13, FV.cell (bT g) 14, FV.cell (bT g) 15, FV.cell (bT g) 16, FV.cell (bT g) 17, FV.cell (bT g) 18, FV.cell (bT g) 19, FV.cell (bT g) 20, FV.cell (bT g) 21, FV.cell (bT g) 22, FV.cell (bT g) 23, FV.cell (bT g) 24, FV.cell (bT g) 25, FV.cell (bT g) 26, FV.cell (bT g) 27, FV.cell (bT g) 28, FV.cell (bT g) 29, FV.cell (bT g) 30, FV.cell (bT g) 31, FV.cell (bT g) 32, FV.cell (bT g) 33, FV.cell (bT g) 34, FV.cell (bT g) 35, FV.cell (bT g) 36, FV.cell (bT g) 37, FV.cell (bT g) 38, FV.cell (bT g) 39, FV.cell (bT g) 40, FV.cell (bT g) 41, FV.cell (bT g) 42, FV.cell (bT g) 43, FV.cell (bT g) 44, FV.cell (bT g) 45, FV.cell (bT g) 46, FV.cell (bT g) 47, FV.cell (bT g) 48, FV.cell (bT g) 49, FV.cell (bT g) 50, FV.cell (bT g) 51, FV.cell (bT g) 52, FV.cell (bT g) 53, FV.cell (bT g) 54, FV.cell (bT g) 55, FV.cell (bT g) 56, FV.cell (bT g) 57, FV.cell (bT g) 58, FV.cell (bT g) 59, FV.cell (bT g) 60, FV.cell (bT g) 61, FV.cell (bT g) 62, FV.cell (bT g) 63] = bT g := by kernel_rfl
theorem lat0 (nm : List FV) (g : Tb) : FV.ag [.sl nm, FV.cell (bT g) 0, FV.cell (bT g) 1, FV.cell (bT g) 2, FV.cell (bT g) 3, FV.cell (bT g) 4, FV.cell (bT g) 5, FV.cell (bT g) 6, FV.cell (bT g) 7, FV.cell (bT g) 8, FV.cell (bT g) 9, FV.cell (bT g) 10, FV.cell (bT g) 11, FV.cell (bT g) 12, FV.cell (bT g) 13, FV.cell (bT g) 14, FV.cell (bT g) 15, FV.cell (bT g) 16, FV.cell (bT g) 17, FV.cell (bT g) 18, FV.cell (bT g) 19, FV.cell (bT g) 20, FV.cell (bT g) 21, FV.cell (bT g) 22, FV.cell (bT g) 23, FV.cell (bT g) 24, FV.cell (bT g) 25, FV.cell (bT g) 26, FV.cell (bT g) 27, FV.cell (bT g) 28, FV.cell (bT g) 29, FV.cell (bT g) 30, FV.cell (bT g) 31, FV.cell (bT g) 32, FV.cell (bT g) 33, FV.cell (bT g) 34, FV.cell (bT g) 35, FV.cell (bT g) 36, FV.cell (bT g) 37, FV.cell (bT g) 38, FV.cell (bT g) 39, FV.cell (bT g) 40, FV.cell (bT g) 41, FV.cell (bT g) 42, FV.cell (bT g) 43, FV.cell (bT g) 44, FV.cell (bT g) 45, FV.cell (bT g) 46, FV.cell (bT g) 47, FV.cell (bT g) 48, FV.cell (bT g) 49, FV.cell (bT g) 50, FV.cell (bT g) 51, FV.cell (bT g) 52, FV.cell (bT g) 53, FV.cell (bT g) 54, FV.cell (bT g) 55, FV.cell (bT g) 56, FV.cell (bT g) 57, FV.cell (bT g) 58, FV.cell (bT g) 59, FV.cell (bT g) 60, FV.cell (bT g) 61, FV.cell (bT g) 62, FV.cell (bT g) 63, .int .i64 0, .int .i64 0, .int .i64 0, .int .i64 0, .int .i64 0, .int .i64 0, .int .i64 0, .int .i64 0, .int .i64 0, .int .i64 0, .int .i64 0, .int .i64 0, .int .i64 0, .int .i64 0, .int .i64 0, .int .i64 0, .int .i64 0, .int .i64 0, .int .i64 0, .int .i64 0, .int .i64 0, .int .i64 0, .int .i64 0, .int .i64 0, .int .i64 0, .int .i64 0, .int .i64 0, .int .i64 0, .int .i64 0, .int .i64 0, .int .i64 0, .int .i64 0, .int .i64 0, .int .i64 0, .int .i64 0, .int .i64 0, .int .i64 0, .int .i64 0, .int .i64 0, .int .i64 0, .int .i64 0, .int .i64 0, .int .i64 0, .int .i64 0, .int .i64 0, .int .i64 0, .int .i64 0, .int .i64 0, .int .i64 0, .int .i64 0, .int .i64 0, .int .i64 0, .int .i64 0, .int .i64 0, .int .i64 0, .int .i64 0, .int .i64 0, .int .i64 0, .int .i64 0, .int .i64 0, .int .i64 0, .int .i64 0, .int .i64 0, .int .i64 0, .int .i64 0, .int .i64 0, .int .i64 0, .int .i64 0, .int .i64 0, .int .i64 0, .int .i64 0, .int .i64 0, .int .i64 0, .int .i64 0, .int .i64 0, .int .i64 0, .int .i64 0, .int .i64 0, .int .i64 0, .int .i64 0, .int .i64 0, .int .i64 0, .int .i64 0, .int .i64 0, .int .i64 0, .int .i64 0, .int .i64 0, .int .i64 0, .int .i64 0, .int .i64 0, .int .i64 0, .int .i64 0, .int .i64 0, .int .i64 0, .int .i64 0, .int .i64 0, .int .i64 0, .int .i64 0, .int .i64 0, .int .i64 0, .int .i64 0, .int .i64 0, .int .i64 0, .int .i64 0, .int .i64 0, .int .i64 0, .int .i64 0, .int .i64 0, .int .i64 0, .int .i64 0, .int .i64 0, .int .i64 0, .int .i64 0, .int .i64 0, .int .i64 0, .int .i64 0, .int .i64 0, .int .i64 0, .int .i64 0, .int .i64 0, .int .i64 0, .int .i64 0, .int .i64 0, .int .i64 0, .int .i64 0, .int .i64 0, .int .i64 0, .int .i64 0, .int .i64 0, .int .i64 0] = latE nm g (fun _ _ => 0) (fun _ _ => 0) 0 0 := by kernel_rfl
theorem named_len {l : List ByteArray} (h : namedB l = true) : 1 ≤ l.length ∧ l.length ≤ 8 := by
 simp only [namedB, Bool.and_eq_true, decide_eq_true_eq] at h
 exact ⟨h.1, h.2.1⟩
theorem New_ok (names : List ByteArray) (pairs : List (Int × Int)) (pp : List FV) : ∃ g, (namedB names = true → Clo names.length (layP (diag names.length) pairs) g) ∧
   Rt0 N_level_New [.fz (polE names pairs pp)] = some (match newC names pairs g with
     | 0 => ([.fz (.pt 195 true (latR names g) 0), .fz (.int .i64 0)], [])
     | c => ([.fz .nilp, .fz (.int .i64 c)], [])) := by
 have hE := fun R k w => E_level_New R k w (strs names) (prs pairs) pp
 cases q0 : namedB names with
 | false =>
   refine ⟨zT, by simp, ?_⟩
   refine rt_call0 A_level_New rfl rfl 0 ?_
   unfold polE
   rw [hE, named_ok, q0]
   simp [onR_some, newC, q0]
 | true =>
   obtain ⟨n1, n8⟩ := named_len q0
   obtain ⟨g, hg, hc⟩ := closed_ok n8 (layP (diag names.length) pairs)
   refine ⟨g, fun _ => hg, ?_⟩
   refine rt_call0 A_level_New rfl rfl 0 ?_
   unfold polE
   obtain ⟨t, h1, h2, h3⟩ := laid_ok n8 pairs
   rw [hE, named_ok, q0]
   simp only [onR_some, List.isEmpty_nil, allF_cons, allF_nil, Bool.and_true, when_true', List.getD_cons_zero, List.getD_cons_succ, toF_fz, isBool_bool, toBool_bool, Bool.not_true, ifB_false, strs_len, h1, h2]
   cases q1 : laidB names.length pairs with
   | false => simp only [Bool.not_false, ifB_true, newC, q0, q1]
   | true =>
     obtain rfl := h3 q1
     have hr : (decide (((0 : Nat) + names.length) * 16 ≤ roomy) && decide ((0 : Nat) + names.length ≤ roomy)) = true := by
       have : roomy = 140737488355328 := rfl
       simp; omega
     have tw := twisted_ok n8 g
     obtain ⟨e', f1, f2⟩ := fill_ok n8 n1 (strs names) g
     simp only [Bool.not_true, ifB_false, strs_fits, when_true', hr, hc, onR_some, List.isEmpty_nil, allF_cons, allF_nil, Bool.and_true, List.getD_cons_zero, toF_fz, bT_ag, ag64, lat0, tw, isBool_bool, toBool_bool]
     cases q2 : tws2 g names.length 0 with
     | true => simp only [ifB_true, newC, q0, q1, q2]
     | false =>
       simp only [ifB_false, f1, onR_some, List.length_cons, List.length_nil, List.all_cons, List.all_nil, lisFz_fz, Bool.and_true, beq_self_eq_true, when_true', List.getD_cons_zero, isF_fz, toF_fz, isBool_bool, toBool_bool, ltoFz_fz]
       cases q3 : fillB g names.length with
       | false => simp only [Bool.not_false, ifB_true, newC, q0, q1, q2, q3]
       | true =>
         rw [f2 q3]
         simp only [Bool.not_true, ifB_false, newC, q0, q1, q2, q3, latR]
theorem tws1_iff {f : Tb} {a : Nat} : ∀ {m b : Nat}, tws1 f a m b = true ↔ ∃ c, b ≤ c ∧ c < b + m ∧ f a c = true ∧ f c a = true
 | 0, b => by simp [tws1]; intro c h1 h2; omega
 | m + 1, b => by
  simp only [tws1, Bool.or_eq_true, Bool.and_eq_true, tws1_iff (m := m)]
  constructor
  ·rintro (h | ⟨c, h1, h2, h3⟩)
   ·exact ⟨b, by omega, by omega, h⟩
   ·exact ⟨c, by omega, by omega, h3⟩
  ·rintro ⟨c, h1, h2, h3⟩
   by_cases e : b = c
   ·subst e; exact .inl h3
   ·exact .inr ⟨c, by omega, by omega, h3⟩
theorem tws2_iff {f : Tb} : ∀ {m a : Nat}, tws2 f m a = true ↔ ∃ b, a ≤ b ∧ b < a + m ∧ tws1 f b b 0 = true
 | 0, b => by simp [tws2]; intro c h1 h2; omega
 | m + 1, b => by
  simp only [tws2, Bool.or_eq_true, tws2_iff (m := m)]
  constructor
  ·rintro (h | ⟨c, h1, h2, h3⟩)
   ·exact ⟨b, by omega, by omega, h⟩
   ·exact ⟨c, by omega, by omega, h3⟩
  ·rintro ⟨c, h1, h2, h3⟩
   by_cases e : b = c
   ·subst e; exact .inl h3
   ·exact .inr ⟨c, by omega, by omega, h3⟩
theorem tws_anti {f : Tb} {n : Nat} : tws2 f n 0 = false ↔ ∀ a b, a < n → b < n → f a b = true → f b a = true → a = b := by
 rw [Bool.eq_false_iff]
 constructor
 ·intro h a b ha hb x y
  apply Classical.byContradiction
  intro e
  apply h
  rw [tws2_iff]
  rcases Nat.lt_or_gt_of_ne e with q | q
  ·exact ⟨b, by omega, by omega, tws1_iff.2 ⟨a, by omega, by omega, y, x⟩⟩
  ·exact ⟨a, by omega, by omega, tws1_iff.2 ⟨b, by omega, by omega, x, y⟩⟩
 ·intro h h2
  obtain ⟨b, _, hb, h3⟩ := tws2_iff.1 h2
  obtain ⟨c, _, hc, x, y⟩ := tws1_iff.1 h3
  have := h b c (by omega) (by omega) x y
  omega
theorem lub_iff {f : Tb} {n a b c : Nat} : lub f n a b c = true ↔ ∀ d, d < n → f a d = true → f b d = true → f c d = true := by
 simp only [lub, List.all_eq_true, List.mem_range]
 constructor
 ·intro h d hd x y
  have := h d hd
  simpa [x, y] using this
 ·intro h d hd
  cases q1 : f a d with
  | false => simp
  | true =>
   cases q2 : f b d with
   | false => simp
   | true => simp [h d hd q1 q2]
def IsLub (f : Tb) (n a b c : Nat) : Prop := c < n ∧ f a c = true ∧ f b c = true ∧ ∀ d, d < n → f a d = true → f b d = true → f c d = true
theorem ovr_spec {f : Tb} {n a b : Nat} : ∀ {m c : Nat}, c + m = n → (∃ r : Nat, ovr f n a b m c = r ∧ IsLub f n a b r) ∨ (ovr f n a b m c = -1 ∧ ∀ r, c ≤ r → ¬ IsLub f n a b r)
 | 0, c, h => .inr ⟨rfl, fun r hr q => by have := q.1; omega⟩
 | m + 1, c, h => by
  simp only [ovr]
  by_cases q : (f a c && (f b c && lub f n a b c)) = true
  ·rw [if_pos q]
   simp only [Bool.and_eq_true, lub_iff] at q
   exact .inl ⟨c, rfl, by omega, q.1, q.2.1, q.2.2⟩
  ·rw [if_neg q]
   rcases ovr_spec (f := f) (n := n) (a := a) (b := b) (m := m) (c := c + 1) (by omega) with h1 | ⟨h1, h2⟩
   ·exact .inl h1
   ·refine .inr ⟨h1, fun r hr hl => ?_⟩
    by_cases e : c = r
    ·subst e
     apply q
     simp only [Bool.and_eq_true, lub_iff]
     exact ⟨hl.2.1, hl.2.2.1, hl.2.2.2⟩
    ·exact h2 r (by omega) hl
theorem botF_spec {n : Nat} (hn : 1 ≤ n) {R : Nat → Nat → Prop} (rf : ∀ a, a < n → R a a) (tr : ∀ a b c, a < n → b < n → c < n → R a b → R b c → R a c) {M : Ti} (hM : ∀ a b, a < n → b < n → ∃ r : Nat, M a b = r ∧ r < n ∧ R r a ∧ R r b) :
   ∀ (m a b : Nat), a + m = n → b < n → botF M m a b < n ∧ R (botF M m a b) b ∧ ∀ j, a ≤ j → j < n → R (botF M m a b) j
 | 0, a, b, h, hb => ⟨hb, rf b hb, fun j h1 h2 => by omega⟩
 | m + 1, a, b, h, hb => by
   obtain ⟨r, h1, h2, h3, h4⟩ := hM b a hb (by omega)
   have hr : (M b a).toNat = r := by rw [h1]; simp
   simp only [botF, hr]
   obtain ⟨q1, q2, q3⟩ := botF_spec hn rf tr hM m (a + 1) r (by omega) h2
   refine ⟨q1, tr _ _ _ q1 h2 hb q2 h3, fun j hj hjn => ?_⟩
   by_cases e : a = j
   · subst e; exact tr _ _ _ q1 h2 hjn q2 h4
   · exact q3 j (by omega) hjn
def ltR (n : Nat) (g : Tb) : Lt where
 n := n
 leq := g
 join a b := (ovr g n a b n 0).toNat
 meet a b := (ovr (trn g) n a b n 0).toNat
 bot := botF (JT (trn g) n n 0) n 0 0
 top := botF (JT g n n 0) n 0 0
theorem JT_full {f : Tb} {n a b : Nat} (ha : a < n) (hb : b < n) : JT f n n 0 a b = ovr f n a b n 0 := by simp [JT, ha, hb]
structure Nice (n : Nat) (g : Tb) : Prop where
 n1 : 1 ≤ n
 n8 : n ≤ 8
 rf : ∀ a, a < n → g a a = true
 tr : Tr n g
 anti : ∀ a b, a < n → b < n → g a b = true → g b a = true → a = b
 j : ∀ a b, a < n → b < n → ∃ r : Nat, ovr g n a b n 0 = r ∧ IsLub g n a b r
 m : ∀ a b, a < n → b < n → ∃ r : Nat, ovr (trn g) n a b n 0 = r ∧ IsLub (trn g) n a b r
theorem Nice.ok {n : Nat} {g : Tb} (N : Nice n g) : (ltR n g).Ok := by
 have J := fun a b ha hb => N.j a b ha hb
 have M := fun a b ha hb => N.m a b ha hb
 obtain ⟨b1, _, b3⟩ := botF_spec (R := fun a b => g a b = true) N.n1 N.rf (fun a b c ha hb hc => N.tr a b c ha hb hc) (M := JT (trn g) n n 0) (fun a b ha hb => by
  obtain ⟨r, h1, h2⟩ := M a b ha hb
  exact ⟨r, by rw [JT_full ha hb]; exact h1, h2.1, h2.2.1, h2.2.2.1⟩) n 0 0 (by omega) (by have := N.n1; omega)
 obtain ⟨t1, _, t3⟩ := botF_spec (R := fun a b => g b a = true) N.n1 N.rf (fun a b c ha hb hc x y => N.tr c b a hc hb ha y x) (M := JT g n n 0) (fun a b ha hb => by
  obtain ⟨r, h1, h2⟩ := J a b ha hb
  exact ⟨r, by rw [JT_full ha hb]; exact h1, h2.1, h2.2.1, h2.2.2.1⟩) n 0 0 (by omega) (by have := N.n1; omega)
 have JJ : ∀ a b, a < n → b < n → IsLub g n a b ((ltR n g).join a b) := fun a b ha hb => by
  obtain ⟨r, h1, h2⟩ := J a b ha hb
  have : (ltR n g).join a b = r := by show (ovr g n a b n 0).toNat = r; rw [h1]; simp
  rw [this]; exact h2
 have MM : ∀ a b, a < n → b < n → IsLub (trn g) n a b ((ltR n g).meet a b) := fun a b ha hb => by
  obtain ⟨r, h1, h2⟩ := M a b ha hb
  have : (ltR n g).meet a b = r := by show (ovr (trn g) n a b n 0).toNat = r; rw [h1]; simp
  rw [this]; exact h2
 exact ⟨N.n1, N.n8, b1, t1, fun a ha => b3 a (by omega) ha, fun a ha => t3 a (by omega) ha, N.rf, N.anti, N.tr, fun a b ha hb => (JJ a b ha hb).1, fun a b ha hb => (JJ a b ha hb).2.1, fun a b ha hb => (JJ a b ha hb).2.2.1,
  fun a b c ha hb hc x y => (JJ a b ha hb).2.2.2 c hc x y, fun a b ha hb => (MM a b ha hb).1, fun a b ha hb => (MM a b ha hb).2.1, fun a b ha hb => (MM a b ha hb).2.2.1, fun a b c ha hb hc x y => (MM a b ha hb).2.2.2 c hc x y⟩
theorem nice_of {names : List ByteArray} {pairs : List (Int × Int)} {g : Tb} (hc : Clo names.length (layP (diag names.length) pairs) g) (h : newC names pairs g = 0) : Nice names.length g := by
 unfold newC at h
 split at h
 ·cases h
 ·rename_i q0
  split at h
  ·cases h
  ·split at h
   ·cases h
   ·rename_i q2
    split at h
    ·cases h
    ·rename_i q3
     obtain ⟨n1, n8⟩ := named_len q0
     have F := fillB_iff.1 q3
     refine ⟨n1, n8, fun a ha => hc.le a a (layP_iff.2 (.inl (by simp [diag, ha]))), hc.tr, tws_anti.1 q2, fun a b ha hb => ?_, fun a b ha hb => ?_⟩
     ·rcases ovr_spec (f := g) (n := names.length) (a := a) (b := b) (m := names.length) (c := 0) (by omega) with h1 | ⟨h1, _⟩
      ·exact h1
      ·have := (F a b ha hb).1; omega
     ·rcases ovr_spec (f := trn g) (n := names.length) (a := a) (b := b) (m := names.length) (c := 0) (by omega) with h1 | ⟨h1, _⟩
      ·exact h1
      ·have := (F a b ha hb).2; omega
theorem latR_is {names : List ByteArray} {g : Tb} (N : Nice names.length g) : IsLat (latR names g) (ltR names.length g) := by
 have n8 := N.n8
 refine ⟨by simp [latR], by rw [latR, latE_0]; rfl, by rw [latR, latE_0]; simp [ltR], fun a b ha hb => ?_, fun a b ha hb => ?_, fun a b ha hb => ?_, by rw [latR, latE_b]; rfl, by rw [latR, latE_t]; rfl, N.ok⟩
 ·have ha : a < names.length := ha
  have hb : b < names.length := hb
  rw [Nat.mul_one, latR, latE_l _ _ _ _ _ _ (by omega) (by omega)]; rfl
 ·have ha : a < names.length := ha
  have hb : b < names.length := hb
  obtain ⟨r, h1, h2⟩ := N.j a b ha hb
  rw [Nat.mul_one, latR, latE_J _ _ _ _ _ _ (by omega) (by omega), JT_full ha hb]
  show _ = FV.int .i64 ((ovr g names.length a b names.length 0).toNat : Nat)
  rw [h1]; simp
 ·have ha : a < names.length := ha
  have hb : b < names.length := hb
  obtain ⟨r, h1, h2⟩ := N.m a b ha hb
  rw [Nat.mul_one, latR, latE_M _ _ _ _ _ _ (by omega) (by omega), JT_full ha hb]
  show _ = FV.int .i64 ((ovr (trn g) names.length a b names.length 0).toNat : Nat)
  rw [h1]; simp
end Go.Ab
end
section
namespace Go.Ab
abbrev Rw := Nat → Bool
def rowL (n : Nat) (p : Rw) : List FV := (List.range n).map fun i => .bool (p i)
@[simp] theorem rowL_len (n : Nat) (p : Rw) : (rowL n p).length = n := by simp [rowL]
theorem rowL_get {n i : Nat} (p : Rw) (h : i < n) : (rowL n p).getD i .nilp = .bool (p i) := by simp [rowL, h]
def setR (p : Rw) (j : Nat) : Rw := fun x => if x = j then true else p x
theorem rowL_set {n j : Nat} (p : Rw) : List.set (rowL n p) j (.bool true) = rowL n (setR p j) := by
 unfold rowL
 apply List.ext_getElem (by simp)
 intro i h1 h2
 rw [List.getElem_set]
 simp only [List.getElem_map, List.getElem_range, setR]
 by_cases e : j = i
 ·rw [if_pos e, if_pos e.symm]
 ·rw [if_neg e, if_neg (fun h => e h.symm)]
theorem rowL_zero (n : Nat) : List.replicate n (FV.bool false) = rowL n fun _ => false := by
 unfold rowL
 apply List.ext_getElem (by simp)
 intro i h1 h2
 simp
def rstep (p : Rw) (q : Int × Int) : Rw := if p q.1.toNat = true then setR p q.2.toNat else p
def rfold (p : Rw) (l : List (Int × Int)) : Rw := l.foldl rstep p
def riter (l : List (Int × Int)) : Nat → Rw → Rw
 | 0, p => p
 | m + 1, p => riter l m (rfold p l)
def rowOf (n : Nat) (l : List (Int × Int)) (a : Nat) : Rw := riter l n (setR (fun _ => false) a)
theorem tab1_0 {n K : Nat} (hn : n ≤ 8) (l : List (Int × Int)) (h64 : l.length ≤ 64) (hin : l.all (inP n) = true) (a r : Int) (nm pp : List FV) : ∀ (m i N : Nat) (p : Rw), i + m = l.length → m < N →
   L_ref01_Table_1_0 Rt0 K true N n a r i nm (prs l) pp (rowL n p) = some (.exit 4, X_ref01_Table_1_0 n a r nm (prs l) pp (rowL n (rfold p (l.drop i))))
 | m, b, 0, _, _, h => by omega
 | 0, i, N + 1, p, h, _ => by
   rw [L_ref01_Table_1_0_eq, List.drop_eq_nil_of_le (by omega)]
   simp [show ¬ ((i : Int) < (l.length : Int)) by omega, rfold]
 | m + 1, i, N + 1, p, h, hN => by
   have hi : i < l.length := by omega
   have hd : l.drop i = l.getD i (0, 0) :: l.drop (i + 1) := by
     rw [List.drop_eq_getElem_cons hi]; simp [hi]
   have hlt : decide ((i : Int) < (l.length : Int)) = true := by simp; omega
   have h00 : decide ((0 : Int) ≤ (i : Int)) = true := by simp
   have ih := fun p => tab1_0 (K := K) hn l h64 hin a r nm pp m (i + 1) N p (by omega) (by omega)
   have hq := List.all_eq_true.1 hin (l.getD i (0, 0)) (by simp [hi])
   rw [L_ref01_Table_1_0_eq, hd]
   simp only [prs_len, hlt, h00, prs_get hi, ifB_true, when_true', Bool.and_true, Int.toNat_natCast, fits_ag, isAg_ag, cell_ag, List.length_cons, List.length_nil, List.getD_cons_zero, List.getD_cons_succ, isInt_int, toInt_int, beq_self_eq_true, rowL_len]
   generalize l.getD i (0, 0) = q at hq
   obtain ⟨q1, q2, q3, q4⟩ := inP_iff.1 hq
   have b1 : (decide (0 ≤ q.1) && decide (q.1 < (n : Int))) = true := by simp; omega
   have b2 : (decide (0 ≤ q.2) && decide (q.2 < (n : Int))) = true := by simp; omega
   have c1 : Nat.blt q.1.toNat n = true := by rw [Nat.blt_eq]; omega
   have c2 : Nat.blt q.2.toNat n = true := by rw [Nat.blt_eq]; omega
   simp only [b1, b2, c1, c2, when_true', rowL_get p (show q.1.toNat < n by omega), isBool_bool, toBool_bool, rowL_set, wrn (show i < 1152921504606846976 by omega), ih]
   have hf : rfold p (q :: l.drop (i + 1)) = rfold (rstep p q) (l.drop (i + 1)) := rfl
   rw [hf]
   unfold rstep
   cases p q.1.toNat with
   | true => simp only [ifB_true, if_true]
   | false => simp only [ifB_false, Bool.false_eq_true, if_false]
theorem tab2_0 {n K : Nat} (hn : n ≤ 8) (l : List (Int × Int)) (h64 : l.length ≤ 64) (hin : l.all (inP n) = true) (hK : 65 < K) (a : Int) (nm pp : List FV) : ∀ (m i N : Nat) (p : Rw), i + m = n → m < N →
   L_ref01_Table_2_0 Rt0 K true N n a i nm (prs l) pp (rowL n p) = some (.exit 2, X_ref01_Table_2_0 n a nm (prs l) pp (rowL n (riter l m p)))
 | m, b, 0, _, _, h => by omega
 | 0, i, N + 1, p, h, _ => by
   rw [L_ref01_Table_2_0_eq]
   simp [show ¬ ((i : Int) < (n : Int)) by omega, riter]
 | m + 1, i, N + 1, p, h, hN => by
   have hlt : decide ((i : Int) < (n : Int)) = true := by simp; omega
   have ih := fun p => tab2_0 (K := K) hn l h64 hin hK a nm pp m (i + 1) N p (by omega) (by omega)
   have t1 := tab1_0 (K := K) hn l h64 hin a i nm pp l.length 0 K p (by omega) (by omega)
   simp only [Int.natCast_zero, List.drop_zero] at t1
   rw [L_ref01_Table_2_0_eq]
   simp only [hlt, ifB_true, t1, onL_some, X_ref01_Table_1_0_eq, wrn (show i < 1152921504606846976 by omega), ih, riter]
theorem tab1_1 {n K : Nat} (hn : n ≤ 8) (l : List (Int × Int)) (h64 : l.length ≤ 64) (hin : l.all (inP n) = true) (a r : Int) (nm pp : List FV) (rs : List FV) : ∀ (m i N : Nat) (p : Rw), i + m = l.length → m < N →
   L_ref01_Table_1_1 Rt0 K true N n a r i nm (prs l) pp rs (rowL n p) = some (.exit 4, X_ref01_Table_1_1 n a r nm (prs l) pp rs (rowL n (rfold p (l.drop i))))
 | m, b, 0, _, _, h => by omega
 | 0, i, N + 1, p, h, _ => by
   rw [L_ref01_Table_1_1_eq, List.drop_eq_nil_of_le (by omega)]
   simp [show ¬ ((i : Int) < (l.length : Int)) by omega, rfold]
 | m + 1, i, N + 1, p, h, hN => by
   have hi : i < l.length := by omega
   have hd : l.drop i = l.getD i (0, 0) :: l.drop (i + 1) := by
     rw [List.drop_eq_getElem_cons hi]; simp [hi]
   have hlt : decide ((i : Int) < (l.length : Int)) = true := by simp; omega
   have h00 : decide ((0 : Int) ≤ (i : Int)) = true := by simp
   have ih := fun p => tab1_1 (K := K) hn l h64 hin a r nm pp rs m (i + 1) N p (by omega) (by omega)
   have hq := List.all_eq_true.1 hin (l.getD i (0, 0)) (by simp [hi])
   rw [L_ref01_Table_1_1_eq, hd]
   simp only [prs_len, hlt, h00, prs_get hi, ifB_true, when_true', Bool.and_true, Int.toNat_natCast, fits_ag, isAg_ag, cell_ag, List.length_cons, List.length_nil, List.getD_cons_zero, List.getD_cons_succ, isInt_int, toInt_int, beq_self_eq_true, rowL_len]
   generalize l.getD i (0, 0) = q at hq
   obtain ⟨q1, q2, q3, q4⟩ := inP_iff.1 hq
   have b1 : (decide (0 ≤ q.1) && decide (q.1 < (n : Int))) = true := by simp; omega
   have b2 : (decide (0 ≤ q.2) && decide (q.2 < (n : Int))) = true := by simp; omega
   have c1 : Nat.blt q.1.toNat n = true := by rw [Nat.blt_eq]; omega
   have c2 : Nat.blt q.2.toNat n = true := by rw [Nat.blt_eq]; omega
   simp only [b1, b2, c1, c2, when_true', rowL_get p (show q.1.toNat < n by omega), isBool_bool, toBool_bool, rowL_set, wrn (show i < 1152921504606846976 by omega), ih]
   have hf : rfold p (q :: l.drop (i + 1)) = rfold (rstep p q) (l.drop (i + 1)) := rfl
   rw [hf]
   unfold rstep
   cases p q.1.toNat with
   | true => simp only [ifB_true, if_true]
   | false => simp only [ifB_false, Bool.false_eq_true, if_false]
theorem tab2_1 {n K : Nat} (hn : n ≤ 8) (l : List (Int × Int)) (h64 : l.length ≤ 64) (hin : l.all (inP n) = true) (hK : 65 < K) (a : Int) (nm pp : List FV) (rs : List FV) : ∀ (m i N : Nat) (p : Rw), i + m = n → m < N →
   L_ref01_Table_2_1 Rt0 K true N n a i nm (prs l) pp rs (rowL n p) = some (.exit 2, X_ref01_Table_2_1 n a nm (prs l) pp rs (rowL n (riter l m p)))
 | m, b, 0, _, _, h => by omega
 | 0, i, N + 1, p, h, _ => by
   rw [L_ref01_Table_2_1_eq]
   simp [show ¬ ((i : Int) < (n : Int)) by omega, riter]
 | m + 1, i, N + 1, p, h, hN => by
   have hlt : decide ((i : Int) < (n : Int)) = true := by simp; omega
   have ih := fun p => tab2_1 (K := K) hn l h64 hin hK a nm pp rs m (i + 1) N p (by omega) (by omega)
   have t1 := tab1_1 (K := K) hn l h64 hin a i nm pp rs l.length 0 K p (by omega) (by omega)
   simp only [Int.natCast_zero, List.drop_zero] at t1
   rw [L_ref01_Table_2_1_eq]
   simp only [hlt, ifB_true, t1, onL_some, X_ref01_Table_1_1_eq, wrn (show i < 1152921504606846976 by omega), ih, riter]
def tabL (n : Nat) (f : Nat → Rw) (m : Nat) : List FV := (List.range m).map fun a => .sl (rowL n (f a))
@[simp] theorem tabL_len (n : Nat) (f : Nat → Rw) (m : Nat) : (tabL n f m).length = m := by simp [tabL]
theorem tabL_succ (n : Nat) (f : Nat → Rw) (m : Nat) : tabL n f m ++ [.sl (rowL n (f m))] = tabL n f (m + 1) := by simp [tabL, List.range_succ]
theorem roomyT {n a : Nat} (hn : n ≤ 8) : (decide ((0 : Int) ≤ (n : Int)) && (decide ((n : Int) ≤ (n : Int)) && (decide (1 * (n : Int) ≤ roomy) && decide ((n : Int) ≤ roomy)))) = true := by
 have : roomy = 140737488355328 := rfl
 simp; omega
theorem tab3_1 {n K : Nat} (hn : n ≤ 8) (l : List (Int × Int)) (h64 : l.length ≤ 64) (hin : l.all (inP n) = true) (hK : 65 < K) (nm pp : List FV) : ∀ (m a N : Nat), a + m = n → m < N →
   onL (L_ref01_Table_3_1 Rt0 K true N n a nm (prs l) pp (tabL n (rowOf n l) a)) (K_ref01_Table_3 Rt0 K true) = some ([.fz (.sl (tabL n (rowOf n l) n))], [])
 | m, b, 0, _, h => by omega
 | 0, a, N + 1, h, _ => by
   obtain rfl : a = n := by omega
   rw [L_ref01_Table_3_1_eq]
   simp [onL_some, X_ref01_Table_3_1_eq]
 | m + 1, a, N + 1, h, hN => by
   have hlt : decide ((a : Int) < (n : Int)) = true := by simp; omega
   have h00 : decide ((0 : Int) ≤ (a : Int)) = true := by simp
   have hbl : Nat.blt a n = true := by rw [Nat.blt_eq]; omega
   have ih := tab3_1 (K := K) hn l h64 hin hK nm pp m (a + 1) N (by omega) (by omega)
   have t2 := tab2_1 (K := K) hn l h64 hin hK a nm pp (tabL n (rowOf n l) a) n 0 K (setR (fun _ => false) a) (by omega) (by omega)
   simp only [Int.natCast_zero] at t2
   have hro : (decide ((a + 1) * 24 ≤ roomy) && decide (a + 1 ≤ roomy)) = true := by
     have : roomy = 140737488355328 := rfl
     simp; omega
   rw [L_ref01_Table_3_1_eq]
   simp only [hlt, h00, ifB_true, roomyT (a := 0) hn, when_true', List.length_replicate, Int.toNat_natCast, hbl, Bool.and_true, rowL_zero, rowL_set, rowL_len, t2, onL_some, X_ref01_Table_2_1_eq, tabL_len, List.length_cons, List.length_nil, Nat.zero_add, hro, wrn (show a < 1152921504606846976 by omega)]
   have hs := tabL_succ n (rowOf n l) a
   unfold rowOf at hs
   unfold rowOf at ih ⊢
   rw [hs]
   exact ih
theorem Table_ok {names : List ByteArray} {pairs : List (Int × Int)} (pp : List FV) (hn : names.length ≤ 8) (hl : laidB names.length pairs = true) :
   Rt0 N_ref01_Table [.fz (polE names pairs pp)] = some ([.fz (.sl (tabL names.length (rowOf names.length pairs) names.length))], []) := by
 simp only [laidB, Bool.and_eq_true, decide_eq_true_eq] at hl
 refine rt_call0 A_ref01_Table rfl rfl 70 ?_
 unfold polE
 rw [E_ref01_Table, strs_len]
 generalize hnn : names.length = n at *
 cases n with
 | zero =>
   rw [L_ref01_Table_3_0_eq]
   simp [onL_some, X_ref01_Table_3_0_eq, tabL]
 | succ n =>
   have t2 := tab2_0 (K := 70) hn pairs hl.1 hl.2 (by omega) 0 (strs names) pp (n + 1) 0 70 (setR (fun _ => false) 0) (by omega) (by omega)
   have t3 := tab3_1 (K := 70) hn pairs hl.1 hl.2 (by omega) (strs names) pp n 1 69 (by omega) (by omega)
   simp only [Int.natCast_zero] at t2
   have hlt : decide ((0 : Int) < ((n + 1 : Nat) : Int)) = true := decide_eq_true (by omega)
   have hbl : Nat.blt 0 (n + 1) = true := by rw [Nat.blt_eq]; omega
   have hro : (decide (((0 : Nat) + (0 + 1)) * 24 ≤ roomy) && decide ((0 : Nat) + (0 + 1) ≤ roomy)) = true := by
     have : roomy = 140737488355328 := rfl
     simp; omega
   have z0 : ((0 : Int)).toNat = 0 := rfl
   have rm : (decide ((0 : Int) ≤ ((n + 1 : Nat) : Int)) && (decide (1 * ((n + 1 : Nat) : Int) ≤ roomy) && decide (((n + 1 : Nat) : Int) ≤ roomy))) = true := by
     have : roomy = 140737488355328 := rfl
     rw [Bool.and_eq_true, Bool.and_eq_true, decide_eq_true_eq, decide_eq_true_eq, decide_eq_true_eq]; omega
   have h01 : IntKind.wrap .i64 ((0 : Int) + 1) = ((1 : Nat) : Int) := by rw [wrap64 (by omega) (by omega)]; rfl
   have e1 : tabL (n + 1) (rowOf (n + 1) pairs) 1 = [.sl (rowL (n + 1) (rowOf (n + 1) pairs 0))] := rfl
   rw [e1] at t3
   rw [L_ref01_Table_3_0_eq]
   simp only [hlt, Int.le_refl, decide_true, ifB_true, rm, when_true', List.length_replicate, Int.toNat_natCast, z0, hbl, Bool.and_true, Bool.true_and, rowL_zero, rowL_set, rowL_len, t2, onL_some, X_ref01_Table_2_0_eq, h01, List.length_cons, List.length_nil, hro]
   exact t3
def rcnt (n : Nat) (p : Rw) : Nat := ((List.range n).filter p).length
theorem rstep_le (p : Rw) (q : Int × Int) : ∀ x, p x = true → rstep p q x = true := fun x h => by
 unfold rstep setR
 split
 ·show (if x = q.2.toNat then true else p x) = true
  split
  ·rfl
  ·exact h
 ·exact h
theorem rfold_le : ∀ (l : List (Int × Int)) (p : Rw), ∀ x, p x = true → rfold p l x = true
 | [], p, x, h => h
 | q :: l, p, x, h => rfold_le l _ x (rstep_le p q x h)
theorem rfold_fix {n : Nat} : ∀ (l : List (Int × Int)) (p : Rw), l.all (inP n) = true → (∀ x, x < n → rfold p l x = p x) → ∀ q ∈ l, p q.1.toNat = true → p q.2.toNat = true
 | [], p, _, _, q, h => by cases h
 | s :: l, p, hin, hf, q, hq => by
  simp only [List.all_cons, Bool.and_eq_true] at hin
  have h1 : ∀ x, x < n → rstep p s x = p x := fun x hx => by
   cases hp : p x with
   | true => exact rstep_le p s x hp
   | false =>
    cases hs : rstep p s x with
    | false => rfl
    | true =>
     have := rfold_le l _ x hs
     have h2 := hf x hx
     rw [hp] at h2
     have h3 : rfold p (s :: l) x = rfold (rstep p s) l x := rfl
     rw [h3, this] at h2; cases h2
  rcases List.mem_cons.1 hq with rfl | hq
  ·intro h
   obtain ⟨_, _, q3, q4⟩ := inP_iff.1 hin.1
   have := h1 q.2.toNat (by omega)
   unfold rstep at this
   rw [if_pos h] at this
   simpa [setR] using this.symm
  ·have q0 := inP_iff.1 (List.all_eq_true.1 hin.2 q hq)
   have := rfold_fix l (rstep p s) hin.2 (fun x hx => (hf x hx).trans (h1 x hx).symm) q hq
   rwa [h1 _ (by omega), h1 _ (by omega)] at this
theorem riter_fix {n : Nat} (l : List (Int × Int)) (hin : l.all (inP n) = true) : ∀ (m : Nat) (p : Rw), n < m + rcnt n p → ∀ q ∈ l, riter l m p q.1.toNat = true → riter l m p q.2.toNat = true
 | 0, p, h => by
  have := List.length_filter_le p (List.range n)
  simp [rcnt] at h this; omega
 | m + 1, p, h => by
  show ∀ q ∈ l, riter l m (rfold p l) q.1.toNat = true → riter l m (rfold p l) q.2.toNat = true
  by_cases e : ∀ x, x < n → rfold p l x = p x
  ·have fx := rfold_fix l p hin e
   have cl : ∀ (m : Nat) (p' : Rw), (∀ q ∈ l, p' q.1.toNat = true → p' q.2.toNat = true) → ∀ q ∈ l, riter l m p' q.1.toNat = true → riter l m p' q.2.toNat = true := by
    intro m
    induction m with
    | zero => exact fun p' h => h
    | succ m ih =>
     intro p' hp'
     refine ih (rfold p' l) ?_
     have same : ∀ (l' : List (Int × Int)), (∀ q ∈ l', p' q.1.toNat = true → p' q.2.toNat = true) → rfold p' l' = p' := by
      intro l'
      induction l' with
      | nil => intro _; rfl
      | cons s l' ih' =>
       intro hs
       have : rstep p' s = p' := by
        unfold rstep
        split
        ·rename_i h1
         funext x
         unfold setR
         split
         ·rename_i e; rw [e]; exact (hs s (List.mem_cons_self ..) h1).symm
         ·rfl
        ·rfl
       show rfold (rstep p' s) l' = p'
       rw [this]
       exact ih' fun q hq => hs q (List.mem_cons_of_mem _ hq)
     rw [same l hp']; exact hp'
   refine cl m (rfold p l) ?_
   have : ∀ q ∈ l, rfold p l q.1.toNat = p q.1.toNat ∧ rfold p l q.2.toNat = p q.2.toNat := fun q hq => by
    have := inP_iff.1 (List.all_eq_true.1 hin q hq)
    exact ⟨e _ (by omega), e _ (by omega)⟩
   intro q hq
   rw [(this q hq).1, (this q hq).2]
   exact fx q hq
  ·refine riter_fix l hin m (rfold p l) ?_
   have : rcnt n p < rcnt n (rfold p l) := by
    refine filt_lt _ (fun i _ => rfold_le l p i) ?_
    apply Classical.byContradiction
    intro hc
    apply e
    intro x hx
    cases hp : p x with
    | true => exact rfold_le l p x hp
    | false =>
     cases hq : rfold p l x with
     | false => rfl
     | true => exact absurd ⟨x, by simpa using hx, hp, hq⟩ hc
   omega
theorem riter_le (l : List (Int × Int)) : ∀ (m : Nat) (p : Rw), ∀ x, p x = true → riter l m p x = true
 | 0, p, x, h => h
 | m + 1, p, x, h => riter_le l m _ x (rfold_le l p x h)
theorem riter_sound {n a : Nat} {l : List (Int × Int)} {g : Tb} (hin : l.all (inP n) = true) (ha : a < n) (hc : Clo n (layP (diag n) l) g) : ∀ (m : Nat) (p : Rw), (∀ x, p x = true → x < n ∧ g a x = true) → ∀ x, riter l m p x = true → x < n ∧ g a x = true
 | 0, p, h => h
 | m + 1, p, h => by
  refine riter_sound hin ha hc m (rfold p l) ?_
  have step : ∀ (l' : List (Int × Int)), (∀ q ∈ l', q ∈ l) → ∀ p : Rw, (∀ x, p x = true → x < n ∧ g a x = true) → ∀ x, rfold p l' x = true → x < n ∧ g a x = true := by
   intro l'
   induction l' with
   | nil => exact fun _ p h => h
   | cons s l' ih =>
    intro hs p hp
    refine ih (fun q hq => hs q (List.mem_cons_of_mem _ hq)) (rstep p s) ?_
    intro x hx
    unfold rstep at hx
    split at hx
    ·rename_i h1
     unfold setR at hx
     split at hx
     ·rename_i e
      subst e
      have q0 := inP_iff.1 (List.all_eq_true.1 hin s (hs s (List.mem_cons_self ..)))
      refine ⟨by omega, hc.tr a s.1.toNat s.2.toNat ha (by omega) (by omega) (hp _ h1).2 (hc.le _ _ ?_)⟩
      exact layP_iff.2 (.inr ⟨s, hs s (List.mem_cons_self ..), rfl, rfl⟩)
     ·exact hp x hx
    ·exact hp x hx
  exact step l (fun _ h => h) p h
theorem rowOf_eq {n a : Nat} {l : List (Int × Int)} {g : Tb} (hin : l.all (inP n) = true) (ha : a < n) (hc : Clo n (layP (diag n) l) g) {b : Nat} (hb : b < n) : rowOf n l a b = g a b := by
 have hs : setR (fun _ => false) a a = true := by simp [setR]
 have fx := riter_fix (n := n) l hin n (setR (fun _ => false) a) (by
  have : 0 < rcnt n (setR (fun _ => false) a) := by
   refine List.length_pos_of_mem (a := a) ?_
   simp [ha, hs]
  omega)
 have self := riter_le l n (setR (fun _ => false) a) a hs
 rw [Bool.eq_iff_iff]
 constructor
 ·intro h
  exact (riter_sound hin ha hc n (setR (fun _ => false) a) (fun x hx => by
   have : x = a := by simpa [setR] using hx
   subst this
   exact ⟨ha, hc.le _ _ (layP_iff.2 (.inl (by simp [diag, ha])))⟩) b h).2
 ·intro h
  have := hc.least (fun x y => !rowOf n l a x || rowOf n l a y) (fun x y hxy => by
   rcases layP_iff.1 hxy with h1 | ⟨q, hq, rfl, rfl⟩
   ·simp only [diag, Bool.and_eq_true, decide_eq_true_eq] at h1
    obtain ⟨rfl, _⟩ := h1
    simp
   ·have := fx q hq
    simp only [Bool.or_eq_true, Bool.not_eq_true']
    cases h1 : rowOf n l a q.1.toNat with
    | false => exact .inl rfl
    | true => exact .inr (this h1)) (fun x y z _ _ _ h1 h2 => by
   simp only [Bool.or_eq_true, Bool.not_eq_true'] at h1 h2 ⊢
   rcases h1 with h1 | h1
   ·exact .inl h1
   ·rcases h2 with h2 | h2
    ·rw [h1] at h2; cases h2
    ·exact .inr h2) a b h
  simp only [Bool.or_eq_true, Bool.not_eq_true'] at this
  rcases this with h1 | h1
  ·rw [show rowOf n l a a = true from self] at h1; cases h1
  ·exact h1
theorem tab_is {n : Nat} {l : List (Int × Int)} {g : Tb} (hin : l.all (inP n) = true) (hc : Clo n (layP (diag n) l) g) : IsTab (tabL n (rowOf n l) n) (ltR n g) := by
 have hg : ∀ a, a < n → (tabL n (rowOf n l) n).getD a .nilp = .sl (rowL n (rowOf n l a)) := fun a ha => by simp [tabL, ha]
 refine ⟨by simp [ltR], fun a ha => ?_, fun a ha => ?_, fun a ha => ?_, fun a b ha hb => ?_⟩
 ·rw [hg a ha]; rfl
 ·rw [hg a ha]; rfl
 ·rw [hg a ha, toSl_sl, rowL_len]; rfl
 ·rw [hg a ha, toSl_sl, rowL_get _ (show b < n from hb), rowOf_eq hin ha hc hb]; rfl
end Go.Ab
end
section
namespace Go.Ab
theorem dlt {a n : Nat} (h : a < n) : (decide ((0 : Int) ≤ (a : Int)) && decide ((a : Int) < (n : Int))) = true := by simp; omega
def lubC (g : Tb) (n a b c : Nat) : Bool := (g a c && g b c) && allI (fun d => !g a d || (!g b d || g c d)) n 0
theorem lubC_iff {g : Tb} {n a b c : Nat} (hc : c < n) : lubC g n a b c = true ↔ IsLub g n a b c := by
 simp only [lubC, Bool.and_eq_true, allI_iff]
 constructor
 ·rintro ⟨⟨h1, h2⟩, h3⟩
  refine ⟨hc, h1, h2, fun d hd x y => ?_⟩
  have := h3 d (by omega) (by omega)
  simpa [x, y] using this
 ·rintro ⟨_, h1, h2, h3⟩
  refine ⟨⟨h1, h2⟩, fun d _ hd => ?_⟩
  cases q1 : g a d with
  | false => simp
  | true =>
   cases q2 : g b d with
   | false => simp
   | true => simp [h3 d (by omega) q1 q2]
def flt (p : Nat → Bool) : Nat → Nat → List Nat
 | 0, _ => []
 | m + 1, c => match p c with | true => c :: flt p m (c + 1) | false => flt p m (c + 1)
theorem flt_none {p : Nat → Bool} : ∀ {m c : Nat}, (∀ x, c ≤ x → x < c + m → p x = false) → flt p m c = []
 | 0, _, _ => rfl
 | m + 1, c, h => by
  simp only [flt, h c (by omega) (by omega)]
  exact flt_none fun x h1 h2 => h x (by omega) (by omega)
theorem flt_one {p : Nat → Bool} {j : Nat} (hj : p j = true) : ∀ {m c : Nat}, (∀ x, c ≤ x → x < c + m → p x = true → x = j) → c ≤ j → j < c + m → flt p m c = [j]
 | 0, c, _, h1, h2 => by omega
 | m + 1, c, h, h1, h2 => by
  simp only [flt]
  by_cases e : c = j
  ·subst e
   rw [hj]
   simp only
   rw [flt_none fun x h3 h4 => by
    cases q : p x with
    | false => rfl
    | true => have := h x (by omega) (by omega) q; omega]
  ·cases q : p c with
   | true => exact absurd (h c (by omega) (by omega) q) e
   | false => exact flt_one hj (fun x h3 h4 => h x (by omega) (by omega)) (by omega) (by omega)
def ints (l : List Nat) : List FV := l.map fun (n : Nat) => .int .i64 (n : Int)
theorem rj1_0 {t : List FV} {L : Lt} (T : IsTab t L) (h8 : L.n ≤ 8) {a b c K : Nat} (ha : a < L.n) (hb : b < L.n) (hc : c < L.n) : ∀ (m d N : Nat) (is : Bool), d + m = L.n → m < N →
   L_ref01_Join_1_0 Rt0 K true N t a b c is d = some (.exit 2, X_ref01_Join_1_0 t a b c (is && allI (fun d => !L.leq a d || (!L.leq b d || L.leq c d)) m d))
 | m, d, 0, _, _, h => by omega
 | 0, d, N + 1, is, h, _ => by
   rw [L_ref01_Join_1_0_eq, T.len]
   simp [show ¬ ((d : Int) < (L.n : Int)) by omega, allI]
 | m + 1, d, N + 1, is, h, hN => by
   have hd : d < L.n := by omega
   have ih := fun is => rj1_0 T h8 (K := K) ha hb hc m (d + 1) N is (by omega) (by omega)
   have hlt : decide ((d : Int) < (L.n : Int)) = true := by simp; omega
   rw [L_ref01_Join_1_0_eq, T.len]
   simp only [dlt ha, dlt hb, dlt hc, dlt hd, Int.toNat_natCast, T.fits a ha, T.fits b hb, T.fits c hc, T.sl a ha, T.sl b hb, T.sl c hc, T.rlen a ha, T.rlen b hb, T.rlen c hc, T.cell a d ha hd, T.cell b d hb hd, T.cell c d hc hd, fits_bool, isBool_bool, toBool_bool, when_true', wrn (show d < 1152921504606846976 by omega), ih, allI]
   rw [hlt, ifB_true]
   cases L.leq a d <;> cases L.leq b d <;> cases L.leq c d <;> simp only [ifB_true, ifB_false, Bool.not_true, Bool.not_false, Bool.true_or, Bool.false_or, Bool.true_and, Bool.and_true, Bool.false_and, Bool.and_false]
theorem rj1_1 {t : List FV} {L : Lt} (T : IsTab t L) (h8 : L.n ≤ 8) {a b c K : Nat} (ha : a < L.n) (hb : b < L.n) (hc : c < L.n) (acc : List FV) : ∀ (m d N : Nat) (is : Bool), d + m = L.n → m < N →
   L_ref01_Join_1_1 Rt0 K true N t a b c is d acc = some (.exit 2, X_ref01_Join_1_1 t a b c (is && allI (fun d => !L.leq a d || (!L.leq b d || L.leq c d)) m d) acc)
 | m, d, 0, _, _, h => by omega
 | 0, d, N + 1, is, h, _ => by
   rw [L_ref01_Join_1_1_eq, T.len]
   simp [show ¬ ((d : Int) < (L.n : Int)) by omega, allI]
 | m + 1, d, N + 1, is, h, hN => by
   have hd : d < L.n := by omega
   have ih := fun is => rj1_1 T h8 (K := K) ha hb hc acc m (d + 1) N is (by omega) (by omega)
   have hlt : decide ((d : Int) < (L.n : Int)) = true := by simp; omega
   rw [L_ref01_Join_1_1_eq, T.len]
   simp only [dlt ha, dlt hb, dlt hc, dlt hd, Int.toNat_natCast, T.fits a ha, T.fits b hb, T.fits c hc, T.sl a ha, T.sl b hb, T.sl c hc, T.rlen a ha, T.rlen b hb, T.rlen c hc, T.cell a d ha hd, T.cell b d hb hd, T.cell c d hc hd, fits_bool, isBool_bool, toBool_bool, when_true', wrn (show d < 1152921504606846976 by omega), ih, allI]
   rw [hlt, ifB_true]
   cases L.leq a d <;> cases L.leq b d <;> cases L.leq c d <;> simp only [ifB_true, ifB_false, Bool.not_true, Bool.not_false, Bool.true_or, Bool.false_or, Bool.true_and, Bool.and_true, Bool.false_and, Bool.and_false]
theorem rj2_1 {t : List FV} {L : Lt} (T : IsTab t L) (h8 : L.n ≤ 8) {a b K : Nat} (ha : a < L.n) (hb : b < L.n) (hK : 9 < K) : ∀ (m c N : Nat) (acc : List Nat), c + m = L.n → acc.length ≤ c → m < N →
   onL (L_ref01_Join_2_1 Rt0 K true N t a b c (ints acc)) (K_ref01_Join_2 Rt0 K true) = some ([.fz (.sl (ints (acc ++ flt (lubC L.leq L.n a b) m c)))], [])
 | m, d, 0, _, _, _, h => by omega
 | 0, c, N + 1, acc, h, _, _ => by
   rw [L_ref01_Join_2_1_eq, T.len]
   simp [show ¬ ((c : Int) < (L.n : Int)) by omega, flt, onL_some, X_ref01_Join_2_1_eq]
 | m + 1, c, N + 1, acc, h, hac, hN => by
   have hc : c < L.n := by omega
   have hlt : decide ((c : Int) < (L.n : Int)) = true := by simp; omega
   have ih := fun acc => rj2_1 T h8 (K := K) ha hb hK m (c + 1) N acc (by omega)
   have i1 := fun is => rj1_1 T h8 (K := K) ha hb hc (ints acc) L.n 0 K is (by omega) (by omega)
   simp only [Int.natCast_zero] at i1
   rw [L_ref01_Join_2_1_eq, T.len]
   simp only [dlt ha, dlt hb, dlt hc, Int.toNat_natCast, T.fits a ha, T.fits b hb, T.sl a ha, T.sl b hb, T.rlen a ha, T.rlen b hb, T.cell a c ha hc, T.cell b c hb hc, fits_bool, isBool_bool, toBool_bool, when_true', jump_true, J_ref01_Join_2_1_eq, i1, onL_some, X_ref01_Join_1_1_eq, wrn (show c < 1152921504606846976 by omega), flt]
   rw [hlt, ifB_true]
   have hro : (decide (((ints acc).length + [FV.int .i64 (c : Int)].length) * 8 ≤ roomy) && decide ((ints acc).length + [FV.int .i64 (c : Int)].length ≤ roomy)) = true := by
     have : roomy = 140737488355328 := rfl
     simp [ints]; omega
   have hap : ints acc ++ [FV.int .i64 (c : Int)] = ints (acc ++ [c]) := by simp [ints]
   simp only [hro, when_true', hap]
   have hl : lubC L.leq L.n a b c = ((L.leq a c && L.leq b c) && allI (fun d => !L.leq a d || (!L.leq b d || L.leq c d)) L.n 0) := rfl
   cases q1 : L.leq a c with
   | false =>
     have : lubC L.leq L.n a b c = false := by rw [hl, q1]; rfl
     simp only [this, ifB_false, Bool.false_and]
     exact ih acc (by omega) (by omega)
   | true =>
     have : lubC L.leq L.n a b c = (L.leq b c && allI (fun d => !L.leq a d || (!L.leq b d || L.leq c d)) L.n 0) := by rw [hl, q1]; rfl
     rw [this]
     simp only [ifB_true]
     cases (L.leq b c && allI (fun d => !L.leq a d || (!L.leq b d || L.leq c d)) L.n 0) with
     | false => simp only [ifB_false]; exact ih acc (by omega) (by omega)
     | true =>
       simp only [ifB_true]
       rw [ih (acc ++ [c]) (by simp; omega) (by omega), List.append_assoc]; rfl
theorem rj2_0 {t : List FV} {L : Lt} (T : IsTab t L) (h8 : L.n ≤ 8) {a b K : Nat} (ha : a < L.n) (hb : b < L.n) (hK : 9 < K) : ∀ (m c N : Nat), c + m = L.n → m < N →
   onL (L_ref01_Join_2_0 Rt0 K true N t a b c) (K_ref01_Join_2 Rt0 K true) = some ([.fz (.sl (ints (flt (lubC L.leq L.n a b) m c)))], [])
 | m, d, 0, _, h => by omega
 | 0, c, N + 1, h, _ => by
   rw [L_ref01_Join_2_0_eq, T.len]
   simp [show ¬ ((c : Int) < (L.n : Int)) by omega, flt, onL_some, X_ref01_Join_2_0_eq, ints]
 | m + 1, c, N + 1, h, hN => by
   have hc : c < L.n := by omega
   have hlt : decide ((c : Int) < (L.n : Int)) = true := by simp; omega
   have ih := rj2_0 T h8 (K := K) ha hb hK m (c + 1) N (by omega) (by omega)
   have i1 := fun is => rj1_0 T h8 (K := K) ha hb hc L.n 0 K is (by omega) (by omega)
   simp only [Int.natCast_zero] at i1
   rw [L_ref01_Join_2_0_eq, T.len]
   simp only [dlt ha, dlt hb, dlt hc, Int.toNat_natCast, T.fits a ha, T.fits b hb, T.sl a ha, T.sl b hb, T.rlen a ha, T.rlen b hb, T.cell a c ha hc, T.cell b c hb hc, fits_bool, isBool_bool, toBool_bool, when_true', jump_true, J_ref01_Join_2_0_eq, i1, onL_some, X_ref01_Join_1_0_eq, wrn (show c < 1152921504606846976 by omega), flt]
   rw [hlt, ifB_true]
   have hro : (decide (((0 : Nat) + [FV.int .i64 (c : Int)].length) * 8 ≤ roomy) && decide ((0 : Nat) + [FV.int .i64 (c : Int)].length ≤ roomy)) = true := by
     have : roomy = 140737488355328 := rfl
     rw [this]; rfl
   have hap : [FV.int .i64 (c : Int)] = ints [c] := by simp [ints]
   have i2 := rj2_1 T h8 (K := K) ha hb hK m (c + 1) N [c] (by omega) (by simp) (by omega)
   simp only [hro, when_true']
   rw [hap]
   have hl : lubC L.leq L.n a b c = ((L.leq a c && L.leq b c) && allI (fun d => !L.leq a d || (!L.leq b d || L.leq c d)) L.n 0) := rfl
   cases q1 : L.leq a c with
   | false =>
     have : lubC L.leq L.n a b c = false := by rw [hl, q1]; rfl
     simp only [this, ifB_false, Bool.false_and]
     exact ih
   | true =>
     have : lubC L.leq L.n a b c = (L.leq b c && allI (fun d => !L.leq a d || (!L.leq b d || L.leq c d)) L.n 0) := by rw [hl, q1]; rfl
     rw [this]
     simp only [ifB_true]
     cases (L.leq b c && allI (fun d => !L.leq a d || (!L.leq b d || L.leq c d)) L.n 0) with
     | false => simp only [ifB_false]; exact ih
     | true =>
       simp only [ifB_true]
       rw [i2]; rfl
theorem rJoin_ok {t : List FV} {L : Lt} (T : IsTab t L) (h8 : L.n ≤ 8) {a b : Nat} (ha : a < L.n) (hb : b < L.n) : Rt0 N_ref01_Join [.fz (.sl t), .fz (.int .i64 a), .fz (.int .i64 b)] = some ([.fz (.sl (ints (flt (lubC L.leq L.n a b) L.n 0)))], []) := by
 refine rt_call0 A_ref01_Join rfl rfl 12 ?_
 rw [E_ref01_Join]
 exact rj2_0 T h8 ha hb (by omega) L.n 0 12 (by omega) (by omega)
theorem flt_join {L : Lt} (O : L.Ok) {a b : Nat} (ha : a < L.n) (hb : b < L.n) : flt (lubC L.leq L.n a b) L.n 0 = [L.join a b] := by
 have hj := O.join a b ha hb
 refine flt_one ((lubC_iff hj).2 ⟨hj, O.joinl a b ha hb, O.joinr a b ha hb, fun d hd x y => O.joinm a b d ha hb hd x y⟩) (fun x _ hx q => ?_) (by omega) (by omega)
 obtain ⟨q1, q2, q3, q4⟩ := (lubC_iff (by omega)).1 q
 exact O.anti x _ q1 hj (q4 _ hj (O.joinl a b ha hb) (O.joinr a b ha hb)) (O.joinm a b x ha hb q1 q2 q3)
end Go.Ab
end
section
namespace Go.Ab
theorem join9_ok {t : List FV} {L : Lt} (T : IsTab t L) (O : L.Ok) {a b : Nat} (ha : a < L.n) (hb : b < L.n) : Rt0 N_ref09_Join [.fz (.sl t), .fz (.int .i64 a), .fz (.int .i64 b)] = some ([.fz (.int .i64 (L.join a b))], []) := by
 refine rt_call0 A_ref09_Join rfl rfl 0 ?_
 rw [E_ref09_Join, rJoin_ok T O.n8 ha hb, flt_join O ha hb]
 simp [onR_some, ints]
end Go.Ab
end
section
namespace Go.Ab
mutual
def labB (L : Lt) : ND → Bool
 | .mk a _ _ _ _ _ is _ => L.is a && labBs L is
def labBs (L : Lt) : List ND → Bool
 | [] => true
 | v :: r => labB L v && labBs L r
end
mutual
def deepN (L : Lt) : ND → Nat
 | .mk a _ _ _ _ _ is _ => deepNs L a.toNat is
def deepNs (L : Lt) : Nat → List ND → Nat
 | acc, [] => acc
 | acc, v :: r => deepNs L (L.join acc (deepN L v)) r
end
mutual
def rightB (L : Lt) : ND → Bool
 | .mk a d k c s t is ks => decide (d = (deepNs L a.toNat is : Int)) && rightBs L is
def rightBs (L : Lt) : List ND → Bool
 | [] => true
 | v :: r => rightB L v && rightBs L r
end
theorem labB_mk (L : Lt) (a d k c s : Int) (t : ByteArray) (is : List ND) (ks : List ByteArray) : labB L (.mk a d k c s t is ks) = (L.is a && labBs L is) := by simp [labB]
theorem labBs_iff {L : Lt} : ∀ {l : List ND}, labBs L l = true ↔ ∀ v ∈ l, labB L v = true
 | [] => by simp [labBs]
 | v :: r => by simp [labBs, labBs_iff (l := r)]
theorem rightBs_iff {L : Lt} : ∀ {l : List ND}, rightBs L l = true ↔ ∀ v ∈ l, rightB L v = true
 | [] => by simp [rightBs]
 | v :: r => by simp [rightBs, rightBs_iff (l := r)]
theorem deepN_mk (L : Lt) (a d k c s : Int) (t : ByteArray) (is : List ND) (ks : List ByteArray) : deepN L (.mk a d k c s t is ks) = deepNs L a.toNat is := by simp [deepN]
theorem rightB_mk (L : Lt) (a d k c s : Int) (t : ByteArray) (is : List ND) (ks : List ByteArray) : rightB L (.mk a d k c s t is ks) = (decide (d = (deepNs L a.toNat is : Int)) && rightBs L is) := by simp [rightB]
mutual
theorem deepN_lt {L : Lt} (O : L.Ok) : ∀ v : ND, labB L v = true → deepN L v < L.n
 | .mk a d k c s t is ks, h => by
  rw [labB_mk, Bool.and_eq_true] at h
  have := Lt.is_iff.1 h.1
  rw [deepN_mk]
  exact deepNs_lt O is a.toNat (by omega) h.2
theorem deepNs_lt {L : Lt} (O : L.Ok) : ∀ (l : List ND) (acc : Nat), acc < L.n → labBs L l = true → deepNs L acc l < L.n
 | [], acc, h, _ => h
 | v :: r, acc, h, hl => by
  simp only [labBs, Bool.and_eq_true] at hl
  exact deepNs_lt O r _ (O.join _ _ h (deepN_lt O v hl.1)) hl.2
end
theorem labels_ok {t9 : List FV} {L : Lt} (T : IsTab t9 L) {v : ND} (hv : v.Sm) : Rt0 N_ref09_Labels [.fz (.sl t9), .fz v.enc] = some ([.fz (.bool (labB L v))], []) := by
 induction hv with
 | @mk a d k c s t is ks hi hk ht hs h ih =>
  have loop : ∀ (j : Nat) (i : Nat), i + j = is.length → onL (L_ref09_Labels_1_0 Rt0 (is.length + 1) true (j + 1) t9 i a d k c s t (is.map ND.enc) (ks.map .str)) (K_ref09_Labels_1 Rt0 (is.length + 1) true) = some ([.fz (.bool (labBs L (is.drop i)))], []) := by
   intro j
   induction j with
   | zero =>
    intro i hij
    rw [L_ref09_Labels_1_0_eq, List.drop_eq_nil_of_le (by omega)]
    simp [show ¬ ((i : Int) < (is.length : Int)) by omega, onL_some, X_ref09_Labels_1_1_eq, labBs]
   | succ j jh =>
    intro i hij
    have hl : i < is.length := by omega
    have h1 := ih is[i] (List.getElem_mem hl)
    have h2 := jh (i + 1) (by omega)
    push_cast at h2
    have hw : IntKind.wrap .i64 ((i : Int) + 1) = (i : Int) + 1 := wrap64 (by omega) (by omega)
    rw [L_ref09_Labels_1_0_eq, drop_cons hl, labBs]
    cases hq : labB L is[i] with
    | true =>
     rw [hq] at h1
     simp [show (i : Int) < (is.length : Int) by omega, List.getElem?_eq_getElem hl, h1, onR_some, hw, h2]
    | false =>
     rw [hq] at h1
     simp [show (i : Int) < (is.length : Int) by omega, List.getElem?_eq_getElem hl, h1, onR_some, onL_some, X_ref09_Labels_1_0_eq]
  have l0 := loop is.length 0 (by omega)
  rw [show ((0 : Nat) : Int) = 0 from rfl, List.drop_zero] at l0
  refine rt_call0 A_ref09_Labels rfl rfl (is.length + 1) ?_
  rw [ND.enc_mk, E_ref09_Labels, T.len, labB_mk]
  unfold Lt.is
  by_cases h1 : a < 0
  ·simp [h1]; omega
  ·by_cases h2 : a ≥ L.n
   ·simp [h1, h2]; omega
   ·rw [decide_eq_false h1, decide_eq_false h2, ifB_false, ifB_false, jump_true, J_ref09_Labels_2_0_eq, l0, decide_eq_true (show 0 ≤ a by omega), decide_eq_true (show a < L.n by omega)]
    rfl
theorem deep9_ok {t9 : List FV} {L : Lt} (T : IsTab t9 L) (O : L.Ok) {v : ND} (hv : v.Sm) : labB L v = true → Rt0 N_ref09_Deep [.fz (.sl t9), .fz v.enc] = some ([.fz (.int .i64 (deepN L v))], []) := by
 induction hv with
 | @mk a d k c s t is ks hi hk ht hs h ih =>
  intro hlab
  rw [labB_mk, Bool.and_eq_true] at hlab
  have ha := Lt.is_iff.1 hlab.1
  have loop : ∀ (j : Nat) (i acc : Nat), acc < L.n → i + j = is.length → L_ref09_Deep_1_0 Rt0 (is.length + 1) true (j + 1) t9 acc i a d k c s t (is.map ND.enc) (ks.map .str) = some (.exit 0, X_ref09_Deep_1_0 (deepNs L acc (is.drop i) : Nat)) := by
   intro j
   induction j with
   | zero =>
    intro i acc hacc hij
    rw [L_ref09_Deep_1_0_eq, List.drop_eq_nil_of_le (by omega)]
    simp [show ¬ ((i : Int) < (is.length : Int)) by omega, deepNs]
   | succ j jh =>
    intro i acc hacc hij
    have hl : i < is.length := by omega
    have hli := labBs_iff.1 hlab.2 is[i] (List.getElem_mem hl)
    have h1 := ih is[i] (List.getElem_mem hl) hli
    have hd := deepN_lt O is[i] hli
    have hj := join9_ok T O hacc hd
    have h2 := jh (i + 1) (L.join acc (deepN L is[i])) (O.join _ _ hacc hd) (by omega)
    push_cast at h2
    have hw : IntKind.wrap .i64 ((i : Int) + 1) = (i : Int) + 1 := wrap64 (by omega) (by omega)
    rw [L_ref09_Deep_1_0_eq, drop_cons hl, deepNs]
    simp [show (i : Int) < (is.length : Int) by omega, List.getElem?_eq_getElem hl, h1, hj, onR_some, hw, h2]
  have l0 := loop is.length 0 a.toNat (by omega) (by omega)
  rw [show ((0 : Nat) : Int) = 0 from rfl, List.drop_zero, Int.toNat_of_nonneg ha.1] at l0
  refine rt_call0 A_ref09_Deep rfl rfl (is.length + 1) ?_
  rw [ND.enc_mk, E_ref09_Deep, l0, onL_some, X_ref09_Deep_1_0_eq, deepN_mk]
theorem right_ok {t9 : List FV} {L : Lt} (T : IsTab t9 L) (O : L.Ok) {v : ND} (hv : v.Sm) : labB L v = true → Rt0 N_ref09_right [.fz (.sl t9), .fz v.enc] = some ([.fz (.bool (rightB L v))], []) := by
 induction hv with
 | @mk a d k c s t is ks hi hk ht hs h ih =>
  intro hlab
  have hdeep := deep9_ok T O (ND.Sm.mk (a := a) (d := d) (k := k) (c := c) (s := s) hi hk ht hs h) hlab
  rw [labB_mk, Bool.and_eq_true] at hlab
  have loop : ∀ (j : Nat) (i : Nat), i + j = is.length → onL (L_ref09_right_1_0 Rt0 (is.length + 1) true (j + 1) t9 i a d k c s t (is.map ND.enc) (ks.map .str)) (K_ref09_right_1 Rt0 (is.length + 1) true) = some ([.fz (.bool (rightBs L (is.drop i)))], []) := by
   intro j
   induction j with
   | zero =>
    intro i hij
    rw [L_ref09_right_1_0_eq, List.drop_eq_nil_of_le (by omega)]
    simp [show ¬ ((i : Int) < (is.length : Int)) by omega, onL_some, X_ref09_right_1_1_eq, rightBs]
   | succ j jh =>
    intro i hij
    have hl : i < is.length := by omega
    have h1 := ih is[i] (List.getElem_mem hl) (labBs_iff.1 hlab.2 is[i] (List.getElem_mem hl))
    have h2 := jh (i + 1) (by omega)
    push_cast at h2
    have hw : IntKind.wrap .i64 ((i : Int) + 1) = (i : Int) + 1 := wrap64 (by omega) (by omega)
    rw [L_ref09_right_1_0_eq, drop_cons hl, rightBs]
    cases hq : rightB L is[i] with
    | true =>
     rw [hq] at h1
     simp [show (i : Int) < (is.length : Int) by omega, List.getElem?_eq_getElem hl, h1, onR_some, hw, h2]
    | false =>
     rw [hq] at h1
     simp [show (i : Int) < (is.length : Int) by omega, List.getElem?_eq_getElem hl, h1, onR_some, onL_some, X_ref09_right_1_0_eq]
  have l0 := loop is.length 0 (by omega)
  rw [show ((0 : Nat) : Int) = 0 from rfl, List.drop_zero] at l0
  rw [deepN_mk] at hdeep
  refine rt_call0 A_ref09_right rfl rfl (is.length + 1) ?_
  rw [ND.enc_mk] at hdeep ⊢
  rw [E_ref09_right, hdeep, rightB_mk]
  by_cases q : d = (deepNs L a.toNat is : Int)
  ·have e : (d != (deepNs L a.toNat is : Int)) = false := by simp [q]
   simp only [onR_some, List.isEmpty_nil, allF_cons, allF_nil, Bool.and_true, when_true', List.getD_cons_zero, toF_fz, isInt_int, toInt_int, e, ifB_false, l0, decide_eq_true q, Bool.true_and]
  ·have e : (d != (deepNs L a.toNat is : Int)) = true := by simpa using q
   simp only [onR_some, List.isEmpty_nil, allF_cons, allF_nil, Bool.and_true, when_true', List.getD_cons_zero, toF_fz, isInt_int, toInt_int, e, ifB_true, decide_eq_false q, Bool.false_and]
end Go.Ab
end
section
namespace Go.Ab
mutual
def strip : ND → JV
 | .mk _ _ k c s t is ks => .mk k c s t (strips is) ks
def strips : List ND → List JV
 | [] => []
 | v :: r => strip v :: strips r
end
theorem strips_eq : ∀ l : List ND, strips l = l.map strip
 | [] => by simp [strips]
 | v :: r => by simp [strips, strips_eq r]
theorem strip_mk (a d k c s : Int) (t : ByteArray) (is : List ND) (ks : List ByteArray) : strip (.mk a d k c s t is ks) = .mk k c s t (is.map strip) ks := by simp [strip, strips_eq]
theorem strip_ok {v : ND} (hv : v.Sm) : Rt0 N_ref09_Strip [.fz v.enc] = some ([.fz (strip v).enc], []) := by
 induction hv with
 | @mk a d k c s t is ks hi hk ht hs h ih =>
  have hroom : roomy = 140737488355328 := rfl
  have z2 : ∀ (z0 z1 z2 : Int) (z3 : ByteArray) (j i : Nat) (acc : List JV), i + j = is.length → acc.length = i → onL (L_ref09_Strip_1_2 Rt0 (is.length + 1) true (j + 1) i a d k c s t (is.map ND.enc) (ks.map .str) z0 z1 z2 z3 k c s t (acc.map JV.enc)) (K_ref09_Strip_1 Rt0 (is.length + 1) true) = some ([.fz (JV.mk k c s t (acc ++ (is.drop i).map strip) []).enc], []) := by
   intro z0 z1 z2 z3 j
   induction j with
   | zero =>
    intro i acc hij hac
    rw [L_ref09_Strip_1_2_eq, List.drop_eq_nil_of_le (by omega), JV.enc_mk]
    simp [show ¬ ((i : Int) < (is.length : Int)) by omega, onL_some, X_ref09_Strip_1_2_eq]
   | succ j jh =>
    intro i acc hij hac
    have hl : i < is.length := by omega
    have h1 := ih is[i] (List.getElem_mem hl)
    have h2 := jh (i + 1) (acc ++ [strip is[i]]) (by omega) (by simp; omega)
    push_cast at h2
    rw [List.map_append, List.map_singleton, List.append_assoc, List.singleton_append] at h2
    have hw : IntKind.wrap .i64 ((i : Int) + 1) = (i : Int) + 1 := wrap64 (by omega) (by omega)
    have hro : (decide (((acc.map JV.enc).length + [(strip is[i]).enc].length) * 88 ≤ roomy) && decide ((acc.map JV.enc).length + [(strip is[i]).enc].length ≤ roomy)) = true := by simp; omega
    rw [L_ref09_Strip_1_2_eq, drop_cons hl, List.map_cons]
    have hg : (is.map ND.enc).getD i .nilp = (is[i]).enc := by simp [hl]
    simp only [List.length_map, decide_eq_true (show (i : Int) < (is.length : Int) by omega), decide_eq_true (show (0 : Int) ≤ (i : Int) by omega), ifB_true, Bool.and_true, when_true', Int.toNat_natCast, hg, ND.enc_fits, h1, onR_some, List.isEmpty_nil, allF_cons, allF_nil, List.getD_cons_zero, toF_fz, JV.enc_fits, hw] at hro ⊢
    simp only [hro, when_true', h2]
  have z3 : ∀ (z0 z1 z2 : Int) (z3 : ByteArray) (j i : Nat) (acc : List JV), i + j = is.length → acc.length = i → onL (L_ref09_Strip_1_3 Rt0 (is.length + 1) true (j + 1) i a d k c s t (is.map ND.enc) (ks.map .str) z0 z1 z2 z3 k c s t (acc.map JV.enc) (ks.map .str)) (K_ref09_Strip_1 Rt0 (is.length + 1) true) = some ([.fz (JV.mk k c s t (acc ++ (is.drop i).map strip) ks).enc], []) := by
   intro z0 z1 z2 z3 j
   induction j with
   | zero =>
    intro i acc hij hac
    rw [L_ref09_Strip_1_3_eq, List.drop_eq_nil_of_le (by omega), JV.enc_mk]
    simp [show ¬ ((i : Int) < (is.length : Int)) by omega, onL_some, X_ref09_Strip_1_3_eq]
   | succ j jh =>
    intro i acc hij hac
    have hl : i < is.length := by omega
    have h1 := ih is[i] (List.getElem_mem hl)
    have h2 := jh (i + 1) (acc ++ [strip is[i]]) (by omega) (by simp; omega)
    push_cast at h2
    rw [List.map_append, List.map_singleton, List.append_assoc, List.singleton_append] at h2
    have hw : IntKind.wrap .i64 ((i : Int) + 1) = (i : Int) + 1 := wrap64 (by omega) (by omega)
    have hro : (decide (((acc.map JV.enc).length + [(strip is[i]).enc].length) * 88 ≤ roomy) && decide ((acc.map JV.enc).length + [(strip is[i]).enc].length ≤ roomy)) = true := by simp; omega
    rw [L_ref09_Strip_1_3_eq, drop_cons hl, List.map_cons]
    have hg : (is.map ND.enc).getD i .nilp = (is[i]).enc := by simp [hl]
    simp only [List.length_map, decide_eq_true (show (i : Int) < (is.length : Int) by omega), decide_eq_true (show (0 : Int) ≤ (i : Int) by omega), ifB_true, Bool.and_true, when_true', Int.toNat_natCast, hg, ND.enc_fits, h1, onR_some, List.isEmpty_nil, allF_cons, allF_nil, List.getD_cons_zero, toF_fz, JV.enc_fits, hw] at hro ⊢
    simp only [hro, when_true', h2]
  rw [strip_mk]
  refine rt_call0 A_ref09_Strip rfl rfl (is.length + 1) ?_
  rw [ND.enc_mk, E_ref09_Strip]
  have hr0 : (decide (((0 : Nat) + (ks.map FV.str).length) * 16 ≤ roomy) && decide ((0 : Nat) + (ks.map FV.str).length ≤ roomy)) = true := by simp; omega
  rw [all_fits_str, when_true', hr0, when_true']
  have hone : ∀ x : JV, (decide (((0 : Nat) + [x.enc].length) * 88 ≤ roomy) && decide ((0 : Nat) + [x.enc].length ≤ roomy)) = true := fun x => rfl
  have w0 : IntKind.wrap .i64 ((0 : Int) + 1) = ((1 : Nat) : Int) := by rw [wrap64 (by omega) (by omega)]; rfl
  have d0 : decide ((0 : Int) ≤ 0) = true := by decide
  have t0 : (0 : Int).toNat = 0 := rfl
  cases ks with
  | nil =>
   rw [show (List.map FV.str ([] : List ByteArray)).isEmpty = true from rfl, ifB_true, L_ref09_Strip_1_0_eq]
   cases is with
   | nil => simp [onL_some, X_ref09_Strip_1_0_eq, JV.enc_mk]
   | cons x xs =>
    have h1 := ih x (List.mem_cons_self ..)
    have h2 := z2 0 0 0 (⟨#[]⟩ : ByteArray) (xs.length - 0) 1 [strip x] (by simp; omega) rfl
    have hz := hone (strip x)
    simp only [List.map_cons, List.map_nil, List.length_cons, List.length_map, decide_eq_true (show (0 : Int) < ((xs.length + 1 : Nat) : Int) by omega), d0, t0, ifB_true, Bool.and_true, when_true', List.getD_cons_zero, ND.enc_fits, h1, onR_some, List.isEmpty_nil, allF_cons, allF_nil, toF_fz, JV.enc_fits, w0, Nat.sub_zero, List.drop_succ_cons, List.drop_zero, List.singleton_append] at h2 hz ⊢
    simp only [hz, when_true']
    exact h2
  | cons y ys =>
   rw [show (List.map FV.str (y :: ys)).isEmpty = false from rfl, ifB_false, L_ref09_Strip_1_1_eq]
   cases is with
   | nil => simp [onL_some, X_ref09_Strip_1_1_eq, JV.enc_mk]
   | cons x xs =>
    have h1 := ih x (List.mem_cons_self ..)
    have h2 := z3 0 0 0 (⟨#[]⟩ : ByteArray) (xs.length - 0) 1 [strip x] (by simp; omega) rfl
    have hz := hone (strip x)
    simp only [List.map_cons, List.map_nil, List.length_cons, List.length_map, decide_eq_true (show (0 : Int) < ((xs.length + 1 : Nat) : Int) by omega), d0, t0, ifB_true, Bool.and_true, when_true', List.getD_cons_zero, ND.enc_fits, h1, onR_some, List.isEmpty_nil, allF_cons, allF_nil, toF_fz, JV.enc_fits, w0, Nat.sub_zero, List.drop_succ_cons, List.drop_zero, List.singleton_append] at h2 hz ⊢
    simp only [hz, when_true']
    exact h2
def JV.z0 : JV := .mk 0 0 0 ⟨#[]⟩ [] []
theorem JV.z0_enc : JV.z0.enc = .ag [.int .i64 0, .int .i64 0, .int .i64 0, .str ⟨#[]⟩, .sl [], .sl []] := by simp [JV.z0, JV.enc_mk]
def preB (k : Int) (li lk : Nat) : Bool := !((k == 6) && ((lk : Int) != (li : Int))) && !((k != 5) && ((k != 6) && decide ((li : Int) > 0)))
mutual
def shapeB : JV → Bool
 | .mk k c s t is ks => preB k is.length ks.length && (isR (.mk k c s t (List.replicate ks.length JV.z0) ks) 0 && shapeBs is)
def shapeBs : List JV → Bool
 | [] => true
 | v :: r => shapeB v && shapeBs r
end
theorem shapeB_mk (k c s : Int) (t : ByteArray) (is : List JV) (ks : List ByteArray) : shapeB (.mk k c s t is ks) = (preB k is.length ks.length && (isR (.mk k c s t (List.replicate ks.length JV.z0) ks) 0 && shapeBs is)) := by simp [shapeB]
inductive JV.Tiny : JV → Prop where
  | mk {k c s : Int} {t : ByteArray} {is : List JV} {ks : List ByteArray} (hi : is.length ≤ 134217728) (hk : ks.length ≤ 134217728) (ht : t.size ≤ 134217728) (hs : ∀ s ∈ ks, s.size ≤ 134217728) (h : ∀ v ∈ is, JV.Tiny v) : (JV.mk k c s t is ks).Tiny
theorem strip_tiny {v : ND} (hv : v.Sm) : (strip v).Tiny := by
 induction hv with
 | @mk a d k c s t is ks hi hk ht hs h ih =>
  rw [strip_mk]
  exact .mk (by simpa using hi) hk ht hs (fun v hv => by obtain ⟨x, hx, rfl⟩ := List.mem_map.1 hv; exact ih x hx)
theorem shape_ok {v : JV} (hv : v.Tiny) : Rt0 N_ref09_shape [.fz v.enc] = some ([.fz (.bool (shapeB v))], []) := by
 induction hv with
 | @mk k c s t is ks hi hk ht hs h ih =>
   have hroom : roomy = 140737488355328 := rfl
   let K := is.length + ks.length + 2
   have loop2 : ∀ (j : Nat) (i f : Nat), i + j = is.length → j < f → onL (L_ref09_shape_2_0 Rt0 K true f i k c s t (is.map JV.enc) (ks.map .str)) (K_ref09_shape_2 Rt0 K true) = some ([.fz (.bool (shapeBs (is.drop i)))], []) := by
     intro j
     induction j with
     | zero =>
       intro i f hij hf
       obtain ⟨f, rfl⟩ : ∃ g, f = g + 1 := ⟨f - 1, by omega⟩
       rw [L_ref09_shape_2_0_eq, List.drop_eq_nil_of_le (by omega)]
       simp [show ¬ ((i : Int) < (is.length : Int)) by omega, onL_some, X_ref09_shape_2_1_eq, shapeBs]
     | succ j jh =>
       intro i f hij hf
       obtain ⟨f, rfl⟩ : ∃ g, f = g + 1 := ⟨f - 1, by omega⟩
       have hl : i < is.length := by omega
       have h1 := ih is[i] (List.getElem_mem hl)
       have h2 := jh (i + 1) f (by omega) (by omega)
       push_cast at h2
       have hw : IntKind.wrap .i64 ((i : Int) + 1) = (i : Int) + 1 := wrap64 (by omega) (by omega)
       rw [L_ref09_shape_2_0_eq, drop_cons hl, shapeBs]
       cases hq : shapeB is[i] with
       | true =>
         rw [hq] at h1
         simp [show (i : Int) < (is.length : Int) by omega, List.getElem?_eq_getElem hl, h1, onR_some, hw, h2]
       | false =>
         rw [hq] at h1
         simp [show (i : Int) < (is.length : Int) by omega, List.getElem?_eq_getElem hl, h1, onR_some, onL_some, X_ref09_shape_2_0_eq]
   have l2 := loop2 is.length 0 K (by omega) (by omega)
   rw [show ((0 : Nat) : Int) = 0 from rfl, List.drop_zero] at l2
   have wsm : (JV.mk k c s t (List.replicate ks.length JV.z0) ks).Sm ∧ (JV.mk k c s t (List.replicate ks.length JV.z0) ks).Short := by
     have zs : JV.z0.Sm := .mk (by simp) (by simp) (fun v h => by cases h)
     have zh : JV.z0.Short := .mk (by simp [ByteArray.size]) (fun v h => by cases h) (fun v h => by cases h)
     exact ⟨.mk (by simp; omega) (by omega) (fun v hv => by rw [List.eq_of_mem_replicate hv]; exact zs), .mk (by omega) (fun s h => by have := hs s h; omega) (fun v hv => by rw [List.eq_of_mem_replicate hv]; exact zh)⟩
   have hIs := is_ok wsm.1 wsm.2 0
   rw [JV.enc_mk, List.map_replicate] at hIs
   have fin : ∀ (l : List FV), l = List.replicate ks.length JV.z0.enc → (onR (Rt0 N_ref05_Is [.fz (.ag [.int .i64 k, .int .i64 c, .int .i64 s, .str t, .sl l, .sl (ks.map .str)]), .fz (.int .i64 0)]) fun r1 => when (List.isEmpty r1.2 && allF [.fz] r1.1) (when (FV.isBool (TV.toF (List.getD r1.1 0 TV.em))) (ifB (!(FV.toBool (TV.toF (List.getD r1.1 0 TV.em))))
       (some ([.fz (.bool false)], [])) (onL (L_ref09_shape_2_0 Rt0 K true K 0 k c s t (is.map JV.enc) (ks.map .str)) (K_ref09_shape_2 Rt0 K true))))) = some ([.fz (.bool (isR (.mk k c s t (List.replicate ks.length JV.z0) ks) 0 && shapeBs is))], []) := fun l hl => by
     rw [hl, hIs]
     cases isR (.mk k c s t (List.replicate ks.length JV.z0) ks) 0 with
     | false => simp only [onR_some, List.isEmpty_nil, allF_cons, allF_nil, Bool.and_true, when_true', List.getD_cons_zero, toF_fz, isBool_bool, toBool_bool, Bool.not_false, ifB_true, Bool.false_and]
     | true => simp only [onR_some, List.isEmpty_nil, allF_cons, allF_nil, Bool.and_true, when_true', List.getD_cons_zero, toF_fz, isBool_bool, toBool_bool, Bool.not_true, ifB_false, l2, Bool.true_and]
   have loop1 : ∀ (j : Nat) (i f : Nat), i + j = ks.length → j < f → onL (L_ref09_shape_1_1 Rt0 K true f i k c s t (is.map JV.enc) (ks.map .str) k c s t (ks.map .str) (List.replicate i JV.z0.enc)) (K_ref09_shape_1 Rt0 K true) = some ([.fz (.bool (isR (.mk k c s t (List.replicate ks.length JV.z0) ks) 0 && shapeBs is))], []) := by
     intro j
     induction j with
     | zero =>
       intro i f hij hf
       obtain ⟨f, rfl⟩ : ∃ g, f = g + 1 := ⟨f - 1, by omega⟩
       rw [L_ref09_shape_1_1_eq, List.length_map, decide_eq_false (show ¬ ((i : Int) < (ks.length : Int)) by omega), ifB_false, onL_some, X_ref09_shape_1_1_eq]
       exact fin _ (by rw [show i = ks.length by omega])
     | succ j jh =>
       intro i f hij hf
       obtain ⟨f, rfl⟩ : ∃ g, f = g + 1 := ⟨f - 1, by omega⟩
       have h2 := jh (i + 1) f (by omega) (by omega)
       push_cast at h2
       have hw : IntKind.wrap .i64 ((i : Int) + 1) = (i : Int) + 1 := wrap64 (by omega) (by omega)
       have hro : (decide (((List.replicate i JV.z0.enc).length + [JV.z0.enc].length) * 88 ≤ roomy) && decide ((List.replicate i JV.z0.enc).length + [JV.z0.enc].length ≤ roomy)) = true := by simp; omega
       have hap : List.replicate i JV.z0.enc ++ [JV.z0.enc] = List.replicate (i + 1) JV.z0.enc := by rw [List.replicate_succ']
       rw [L_ref09_shape_1_1_eq, List.length_map, decide_eq_true (show (i : Int) < (ks.length : Int) by omega), ifB_true, ← JV.z0_enc, hro, when_true', hw, hap]
       exact h2
   have l1 : onL (L_ref09_shape_1_0 Rt0 K true K 0 k c s t (is.map JV.enc) (ks.map .str) k c s t (ks.map .str)) (K_ref09_shape_1 Rt0 K true) = some ([.fz (.bool (isR (.mk k c s t (List.replicate ks.length JV.z0) ks) 0 && shapeBs is))], []) := by
     show onL (L_ref09_shape_1_0 Rt0 K true (is.length + ks.length + 1 + 1) 0 k c s t (is.map JV.enc) (ks.map .str) k c s t (ks.map .str)) (K_ref09_shape_1 Rt0 K true) = _
     rw [L_ref09_shape_1_0_eq, List.length_map]
     by_cases hk0 : ks.length = 0
     · rw [decide_eq_false (show ¬ ((0 : Int) < (ks.length : Int)) by omega), ifB_false, onL_some, X_ref09_shape_1_0_eq]
       exact fin [] (by rw [hk0]; rfl)
     · have h2 := loop1 (ks.length - 1) 1 (is.length + ks.length + 1) (by omega) (by omega)
       have w0 : IntKind.wrap .i64 ((0 : Int) + 1) = ((1 : Nat) : Int) := by rw [wrap64 (by omega) (by omega)]; rfl
       have hro : (decide (((0 : Nat) + [JV.z0.enc].length) * 88 ≤ roomy) && decide ((0 : Nat) + [JV.z0.enc].length ≤ roomy)) = true := rfl
       rw [decide_eq_true (show (0 : Int) < (ks.length : Int) by omega), ifB_true, ← JV.z0_enc, hro, when_true', w0]
       exact h2
   have j3 : J_ref09_shape_3_0 Rt0 K true k c s t (is.map JV.enc) (ks.map .str) k c s t (ks.map .str) = some ([.fz (.bool (isR (.mk k c s t (List.replicate ks.length JV.z0) ks) 0 && shapeBs is))], []) := by
     rw [J_ref09_shape_3_0_eq]; exact l1
   refine rt_call0 A_ref09_shape rfl rfl K ?_
   rw [JV.enc_mk, E_ref09_shape, shapeB_mk]
   simp only [jump_true, j3, List.length_map]
   unfold preB
   cases (k == 6) <;> cases ((ks.length : Int) != (is.length : Int)) <;> cases (k != 5) <;> cases (k != 6) <;> cases decide ((is.length : Int) > 0) <;> simp
theorem nis9_ok {t9 : List FV} {L : Lt} (T : IsTab t9 L) (O : L.Ok) {v : ND} (hv : v.Sm) : Rt0 N_ref09_Is [.fz (.sl t9), .fz v.enc] = some ([.fz (.bool (labB L v && (rightB L v && shapeB (strip v))))], []) := by
 have h1 := labels_ok T hv
 have h2 := right_ok T O hv
 have h3 := strip_ok hv
 have h4 := shape_ok (strip_tiny hv)
 obtain ⟨a, d, k, c, s, t, is, ks⟩ := v
 have hE := E_ref09_Is Rt0 0 true t9 a d k c s t (is.map ND.enc) (ks.map .str)
 rw [← ND.enc_mk] at hE
 refine rt_call0 A_ref09_Is rfl rfl 0 (hE.trans ?_)
 rw [h1]
 cases hl : labB L (ND.mk a d k c s t is ks) with
 | false => simp only [onR_some, List.isEmpty_nil, allF_cons, allF_nil, Bool.and_true, when_true', List.getD_cons_zero, toF_fz, isBool_bool, toBool_bool, ifB_false, Bool.false_and]
 | true =>
  rw [h2 hl]
  cases hr : rightB L (ND.mk a d k c s t is ks) with
  | false => simp only [onR_some, List.isEmpty_nil, allF_cons, allF_nil, Bool.and_true, when_true', List.getD_cons_zero, toF_fz, isBool_bool, toBool_bool, ifB_true, ifB_false, Bool.false_and, Bool.true_and]
  | true => simp only [onR_some, List.isEmpty_nil, allF_cons, allF_nil, Bool.and_true, when_true', List.getD_cons_zero, toF_fz, isBool_bool, toBool_bool, ifB_true, Bool.true_and, h3, h4]
end Go.Ab
end
section
namespace Go.Ab
section
variable {L : Lt} (O : L.Ok) {a b c : Nat} (ha : a < L.n) (hb : b < L.n) (hc : c < L.n)
include O ha hb
theorem Lt.Ok.join_eq {x : Nat} (hx : x < L.n) (h1 : L.leq a x = true) (h2 : L.leq b x = true) (h : ∀ d, d < L.n → L.leq a d = true → L.leq b d = true → L.leq x d = true) : L.join a b = x :=
 O.anti _ _ (O.join a b ha hb) hx (O.joinm a b x ha hb hx h1 h2) (h _ (O.join a b ha hb) (O.joinl a b ha hb) (O.joinr a b ha hb))
theorem Lt.Ok.leq_join : L.leq a b = decide (L.join a b = b) := by
 rw [Bool.eq_iff_iff, decide_eq_true_eq]
 constructor
 ·intro h; exact O.join_eq ha hb hb h (O.refl b hb) fun d hd _ y => y
 ·intro h; have := O.joinl a b ha hb; rwa [h] at this
include hc
theorem Lt.Ok.join_assoc : L.join a (L.join b c) = L.join (L.join a b) c := by
 have h1 := O.join b c hb hc
 have h2 := O.join a b ha hb
 have h3 := O.join (L.join a b) c h2 hc
 have l1 := O.joinl _ c h2 hc
 have ra := O.trans _ _ _ ha h2 h3 (O.joinl a b ha hb) l1
 have rb := O.trans _ _ _ hb h2 h3 (O.joinr a b ha hb) l1
 refine O.join_eq ha h1 h3 ra (O.joinm b c _ hb hc h3 rb (O.joinr _ c h2 hc)) fun d hd x y => ?_
 have yb := O.trans _ _ _ hb h1 hd (O.joinl b c hb hc) y
 have yc := O.trans _ _ _ hc h1 hd (O.joinr b c hb hc) y
 exact O.joinm _ c d h2 hc hd (O.joinm a b d ha hb hd x yb) yc
end
theorem Lt.joinI_nat {L : Lt} {a b : Nat} (ha : a < L.n) (hb : b < L.n) : L.joinI a b = L.join a b := by
 unfold Lt.joinI
 rw [if_pos ⟨Lt.is_iff.2 ⟨by omega, by omega⟩, Lt.is_iff.2 ⟨by omega, by omega⟩⟩]
 simp
theorem Lt.leqI_nat {L : Lt} {a b : Nat} (ha : a < L.n) (hb : b < L.n) : L.leqI a b = L.leq a b := by
 unfold Lt.leqI
 rw [Lt.is_iff.2 ⟨by omega, by omega⟩, Lt.is_iff.2 ⟨by omega, by omega⟩]
 simp
end Go.Ab
end
section
namespace Go.Ab
theorem nd_cells (v : ND) : FV.isAg 8 v.enc = true ∧ FV.cell v.enc 0 = .int .i64 v.a ∧ FV.cell v.enc 1 = .int .i64 v.d ∧ FV.cell v.enc 2 = .int .i64 v.k ∧ FV.cell v.enc 6 = .sl (v.is.map ND.enc) := by
 obtain ⟨a, d, k, c, s, t, is, ks⟩ := v
 rw [ND.enc_mk]; exact ⟨rfl, rfl, rfl, rfl, rfl⟩
theorem deepNs_ge {L : Lt} (O : L.Ok) : ∀ (l : List ND) (acc : Nat), acc < L.n → labBs L l = true → L.leq acc (deepNs L acc l) = true
 | [], acc, h, _ => by simpa [deepNs] using O.refl acc h
 | v :: r, acc, h, hl => by
  simp only [labBs, Bool.and_eq_true] at hl
  have hd := deepN_lt O v hl.1
  have hj := O.join _ _ h hd
  rw [deepNs]
  exact O.trans _ _ _ h hj (deepNs_lt O r _ hj hl.2) (O.joinl _ _ h hd) (deepNs_ge O r _ hj hl.2)
theorem may_labels {L : Lt} (O : L.Ok) {a d k c s : Int} {t : ByteArray} {is : List ND} {ks : List ByteArray} (h1 : labB L (.mk a d k c s t is ks) = true) (h2 : rightB L (.mk a d k c s t is ks) = true) : ∃ x y : Nat, a = x ∧ d = y ∧ x < L.n ∧ y < L.n ∧ L.leq x y = true := by
  rw [labB_mk, Bool.and_eq_true] at h1
  rw [rightB_mk, Bool.and_eq_true, decide_eq_true_eq] at h2
  have ha := Lt.is_iff.1 h1.1
  exact ⟨a.toNat, _, by omega, h2.1, by omega, deepNs_lt O is _ (by omega) h1.2, deepNs_ge O is _ (by omega) h1.2⟩
def mayB (L : Lt) (v : ND) : Bool := labB L v && (rightB L v && shapeB (strip v))
theorem may_item {L : Lt} {a d k c s : Int} {t : ByteArray} {is : List ND} {ks : List ByteArray} (h : mayB L (.mk a d k c s t is ks) = true) {v : ND} (hv : v ∈ is) : mayB L v = true := by
 simp only [mayB, Bool.and_eq_true, labB_mk, rightB_mk, strip_mk, shapeB_mk, labBs_iff, rightBs_iff] at h ⊢
 obtain ⟨⟨h1, h2⟩, ⟨h3, h4⟩, h5, h6, h7⟩ := h
 refine ⟨h2 v hv, h4 v hv, ?_⟩
 have : ∀ l : List JV, shapeBs l = true → ∀ x ∈ l, shapeB x = true := by
  intro l
  induction l with
  | nil => intro _ x hx; cases hx
  | cons y l ih =>
   intro hl x hx
   simp only [shapeBs, Bool.and_eq_true] at hl
   rcases List.mem_cons.1 hx with rfl | hx
   ·exact hl.1
   ·exact ih hl.2 x hx
 exact this _ h7 _ (List.mem_map_of_mem hv)
end Go.Ab
end
section
namespace Go.Ab
def deepP (L : Lt) : Nat → List ND → Nat
 | acc, [] => acc
 | acc, v :: r => deepP L (L.joinI (L.joinI acc v.a) v.d) r
theorem join2_ok {e : FV} {L : Lt} (I : IsLat e L) (acc : Nat) (x y : Int) : Rt0 N_node_join [.fz (.pt 195 true e 0), .fz (.int .i64 acc), .fz (.sl [.int .i64 x, .int .i64 y])] = some ([.fz (.int .i64 (L.joinI (L.joinI acc x) y))], []) := by
 refine rt_call0 A_node_join rfl rfl 4 ?_
 have w0 : IntKind.wrap .i64 ((0 : Int) + 1) = 1 := by rw [wrap64 (by omega) (by omega)]; rfl
 have w1 : IntKind.wrap .i64 ((1 : Int) + 1) = 2 := by rw [wrap64 (by omega) (by omega)]; rfl
 rw [E_node_join, L_node_join_1_0_eq]
 have d1 : decide ((0 : Int) < (([FV.int .i64 x, .int .i64 y].length : Nat) : Int)) = true := rfl
 have d2 : decide ((1 : Int) < (([FV.int .i64 x, .int .i64 y].length : Nat) : Int)) = true := rfl
 have d3 : decide ((2 : Int) < (([FV.int .i64 x, .int .i64 y].length : Nat) : Int)) = false := rfl
 have z0 : decide ((0 : Int) ≤ 0) = true := rfl
 have z1 : decide ((0 : Int) ≤ 1) = true := rfl
 have g0 : ([FV.int .i64 x, .int .i64 y]).getD (0 : Int).toNat .nilp = .int .i64 x := rfl
 have g1 : ([FV.int .i64 x, .int .i64 y]).getD (1 : Int).toNat .nilp = .int .i64 y := rfl
 simp only [d1, z0, g0, ifB_true, Bool.and_true, when_true', fits_int, isInt_int, toInt_int, lat_Join I, onR_some, List.isEmpty_nil, allF_cons, allF_nil, List.getD_cons_zero, toF_fz, w0]
 rw [L_node_join_1_0_eq]
 simp only [d2, z1, g1, ifB_true, Bool.and_true, when_true', fits_int, isInt_int, toInt_int, lat_Join I, onR_some, List.isEmpty_nil, allF_cons, allF_nil, List.getD_cons_zero, toF_fz, w1]
 rw [L_node_join_1_0_eq]
 simp only [d3, ifB_false, onL_some, X_node_join_1_0_eq]
theorem deepP_ok {e : FV} {L : Lt} (I : IsLat e L) (acc : Nat) (is : List ND) (hi : is.length ≤ 134217728) : Rt0 N_node_deep [.fz (.pt 195 true e 0), .fz (.int .i64 acc), .fz (.sl (is.map ND.enc))] = some ([.fz (.int .i64 (deepP L acc is))], []) := by
 have loop : ∀ (j : Nat) (i acc : Nat), i + j = is.length → L_node_deep_1_0 Rt0 (is.length + 1) true (j + 1) e acc (is.map ND.enc) is.length i = some (.exit 0, X_node_deep_1_0 (deepP L acc (is.drop i) : Nat)) := by
  intro j
  induction j with
  | zero =>
   intro i acc hij
   rw [L_node_deep_1_0_eq, List.drop_eq_nil_of_le (by omega)]
   simp [show ¬ ((i : Int) < (is.length : Int)) by omega, deepP]
  | succ j jh =>
   intro i acc hij
   have hl : i < is.length := by omega
   obtain ⟨n1, n2, n3, _⟩ := nd_cells is[i]
   have h1 := join2_ok I acc (is[i]).a (is[i]).d
   have h2 := jh (i + 1) (L.joinI (L.joinI acc (is[i]).a) (is[i]).d) (by omega)
   push_cast at h2
   have hw : IntKind.wrap .i64 ((i : Int) + 1) = (i : Int) + 1 := wrap64 (by omega) (by omega)
   rw [L_node_deep_1_0_eq, drop_cons hl, deepP]
   simp [show (i : Int) < (is.length : Int) by omega, List.getElem?_eq_getElem hl, n1, n2, n3, h1, onR_some, hw, h2]
 have l0 := loop is.length 0 acc (by omega)
 rw [show ((0 : Nat) : Int) = 0 from rfl, List.drop_zero] at l0
 refine rt_call0 A_node_deep rfl rfl (is.length + 1) ?_
 rw [E_node_deep, List.length_map, l0, onL_some, X_node_deep_1_0_eq]
theorem deepP_eq {L : Lt} (O : L.Ok) : ∀ (is : List ND) (acc : Nat), acc < L.n → labBs L is = true → rightBs L is = true → deepP L acc is = deepNs L acc is
 | [], acc, _, _, _ => by simp [deepP, deepNs]
 | v :: r, acc, h, hl, hr => by
  simp only [labBs, rightBs, Bool.and_eq_true] at hl hr
  obtain ⟨a, d, k, c, s, t, is, ks⟩ := v
  obtain ⟨x, y, rfl, rfl, hx, hy, hxy⟩ := may_labels O hl.1 hr.1
  have hd : deepN L (ND.mk x y k c s t is ks) = y := by
   have := hr.1
   rw [rightB_mk, Bool.and_eq_true, decide_eq_true_eq] at this
   rw [deepN_mk]; omega
  rw [deepP, deepNs, hd]
  show deepP L (L.joinI (L.joinI acc (x : Int)) (y : Int)) r = _
  have h1 := O.join acc x h hx
  rw [Lt.joinI_nat h hx, Lt.joinI_nat h1 hy]
  have e : L.join (L.join acc x) y = L.join acc y := by
   rw [← O.join_assoc h hx hy]
   have : L.join x y = y := by
    have := O.leq_join hx hy
    rw [hxy] at this
    simpa using this.symm
   rw [this]
  rw [e]
  exact deepP_eq O r _ (O.join acc y h hy) hl.2 hr.2
end Go.Ab
end
section
namespace Go.Ab
def holeN (L : Lt) : ND := .mk L.top L.top 8 0 0 ⟨#[]⟩ [] []
mutual
def und (L : Lt) (a : Int) : Nat → ND → ND
 | up, .mk x d k c s t is ks => if L.leqI (L.joinI up x) a = true then .mk (L.joinI up x) (deepP L (L.joinI up x) (unds L a (L.joinI up x) is)) k c s t (unds L a (L.joinI up x) is) ks else holeN L
def unds (L : Lt) (a : Int) : Nat → List ND → List ND
 | _, [] => []
 | up, v :: r => und L a up v :: unds L a up r
end
theorem unds_eq (L : Lt) (a : Int) (up : Nat) : ∀ l : List ND, unds L a up l = l.map (und L a up)
 | [] => by simp [unds]
 | v :: r => by simp [unds, unds_eq L a up r]
theorem und_mk (L : Lt) (a : Int) (up : Nat) (x d k c s : Int) (t : ByteArray) (is : List ND) (ks : List ByteArray) : und L a up (.mk x d k c s t is ks) = if L.leqI (L.joinI up x) a = true then .mk (L.joinI up x) (deepP L (L.joinI up x) (is.map (und L a (L.joinI up x)))) k c s t (is.map (und L a (L.joinI up x))) ks else holeN L := by
 simp [und, unds_eq]
theorem hole_sm (L : Lt) : (holeN L).Sm := .mk (by simp) (by simp) (by simp [ByteArray.size]) (fun s h => by cases h) (fun v h => by cases h)
theorem und_sm {L : Lt} {a : Int} {v : ND} (hv : v.Sm) : ∀ up : Nat, (und L a up v).Sm := by
 induction hv with
 | @mk x d k c s t is ks hi hk ht hs h ih =>
  intro up
  rw [und_mk]
  split
  ·exact .mk (by simpa using hi) hk ht hs (fun v hv => by obtain ⟨y, hy, rfl⟩ := List.mem_map.1 hv; exact ih y hy _)
  ·exact hole_sm L
theorem set_mix {α : Type} {l : List α} {z : α} {n i : Nat} (hl : l.length = n) (hi : i < n) : (l.take i ++ List.replicate (n - i) z).set i (l[i]'(by omega)) = l.take (i + 1) ++ List.replicate (n - (i + 1)) z := by
 apply List.ext_getElem
 ·simp; omega
 ·intro j h1 h2
  rw [List.getElem_set]
  by_cases e : i = j
  ·subst e
   rw [if_pos rfl, List.getElem_append_left (by simp; omega), List.getElem_take]
  ·rw [if_neg e]
   by_cases q : j < i
   ·rw [List.getElem_append_left (by simp; omega), List.getElem_append_left (by simp; omega), List.getElem_take, List.getElem_take]
   ·rw [List.getElem_append_right (by simp; omega), List.getElem_append_right (by simp; omega)]
    simp
theorem array_ok {e : FV} {L : Lt} (I : IsLat e L) (acc : Nat) (is : List ND) (hi : is.length ≤ 134217728) : Rt0 N_node_Array [.fz (.pt 195 true e 0), .fz (.int .i64 acc), .fz (.sl (is.map ND.enc))] = some ([.fz (ND.mk acc (deepP L acc is) 5 0 0 ⟨#[]⟩ is []).enc], []) := by
 have hd := deepP_ok I acc is hi
 have hro : (decide (((0 : Nat) + (is.map ND.enc).length) * 104 ≤ roomy) && decide ((0 : Nat) + (is.map ND.enc).length ≤ roomy)) = true := by
  have : roomy = 140737488355328 := rfl
  simp; omega
 refine rt_call0 A_node_Array rfl rfl 0 ((E_node_Array Rt0 0 true e acc _).trans ?_)
 simp only [hd, ND.all_fits, hro, onR_some, onL_some, List.isEmpty_nil, allF_cons, allF_nil, Bool.and_true, Bool.true_and, when_true', List.getD_cons_zero, List.getD_cons_succ, isF_fz, toF_fz, isBool_bool, toBool_bool, isInt_int, toInt_int, isStr_str, toStr_str, isSl_sl, toSl_sl, List.length_cons, List.length_nil, List.all_cons, List.all_nil, lisFz_fz, ltoFz_fz, beq_self_eq_true, jump_true, ifB_true, ifB_false, isF_pv, isPv_pv, toV_pv, isNil_nilp, isNil_pt, isPt_pt, toAg_ag, cell_ag, isAg_ag, fits_ag, Int.toNat_natCast, Bool.not_true, Bool.not_false, fits_int, fits_bool, fits_str, fits_sl, ND.enc_mk, List.map_nil]
theorem holeP_ok {e : FV} {L : Lt} (I : IsLat e L) : Rt0 N_erase_hole [.fz (.pt 195 true e 0)] = some ([.fz (holeN L).enc], []) := by
 refine rt_call0 A_erase_hole rfl rfl 0 ((E_erase_hole Rt0 0 true e).trans ?_)
 simp only [lat_Top I, onR_some, onL_some, List.isEmpty_nil, allF_cons, allF_nil, Bool.and_true, Bool.true_and, when_true', List.getD_cons_zero, List.getD_cons_succ, isF_fz, toF_fz, isBool_bool, toBool_bool, isInt_int, toInt_int, isStr_str, toStr_str, isSl_sl, toSl_sl, List.length_cons, List.length_nil, List.all_cons, List.all_nil, lisFz_fz, ltoFz_fz, beq_self_eq_true, jump_true, ifB_true, ifB_false, isF_pv, isPv_pv, toV_pv, isNil_nilp, isNil_pt, isPt_pt, toAg_ag, cell_ag, isAg_ag, fits_ag, Int.toNat_natCast, Bool.not_true, Bool.not_false, fits_int, fits_bool, fits_str, fits_sl, holeN, ND.enc_mk, List.map_nil]
def ND.z0 : ND := .mk 0 0 0 0 0 ⟨#[]⟩ [] []
theorem nz0 : FV.ag [.int .i64 0, .int .i64 0, .int .i64 0, .int .i64 0, .int .i64 0, .str ⟨#[]⟩, .sl [], .sl []] = ND.z0.enc := by simp [ND.z0, ND.enc_mk]
theorem roomN {n : Nat} (h : n ≤ 134217728) : (decide ((0 : Int) ≤ (n : Int)) && (decide ((n : Int) ≤ (n : Int)) && (decide (104 * (n : Int) ≤ roomy) && decide ((n : Int) ≤ roomy)))) = true := by
 have : roomy = 140737488355328 := rfl
 rw [Bool.and_eq_true, Bool.and_eq_true, Bool.and_eq_true, decide_eq_true_eq, decide_eq_true_eq, decide_eq_true_eq, decide_eq_true_eq]; omega
theorem roomK (ks : List ByteArray) (h : ks.length ≤ 134217728) : (decide (((0 : Nat) + (ks.map FV.str).length) * 16 ≤ roomy) && decide ((0 : Nat) + (ks.map FV.str).length ≤ roomy)) = true := by
 have : roomy = 140737488355328 := rfl
 simp; omega
theorem under_ok {e : FV} {L : Lt} (I : IsLat e L) (a : Int) {v : ND} (hv : v.Sm) : ∀ up : Nat, Rt0 N_erase_under [.fz (.pt 195 true e 0), .fz v.enc, .fz (.int .i64 up), .fz (.int .i64 a)] = some ([.fz (und L a up v).enc], []) := by
 induction hv with
 | @mk x d k c s t is ks hi hk ht hs h ih =>
   intro up
   have hj := lat_Join I up x
   have hq := lat_Leq I (L.joinI up x) a
   generalize hu : L.joinI up x = u at hj hq
   have hur : ∀ v, und L a u v = und L a u v := fun _ => rfl
   refine rt_call0 A_erase_under rfl rfl (is.length + 1) ?_
   rw [ND.enc_mk, E_erase_under, hj, und_mk, hu]
   simp only [onR_some, onL_some, List.isEmpty_nil, allF_cons, allF_nil, Bool.and_true, Bool.true_and, when_true', List.getD_cons_zero, List.getD_cons_succ, isF_fz, toF_fz, isBool_bool, toBool_bool, isInt_int, toInt_int, isStr_str, toStr_str, isSl_sl, toSl_sl, List.length_cons, List.length_nil, List.all_cons, List.all_nil, lisFz_fz, ltoFz_fz, beq_self_eq_true, jump_true, ifB_true, ifB_false, isF_pv, isPv_pv, toV_pv, isNil_nilp, isNil_pt, isPt_pt, toAg_ag, cell_ag, isAg_ag, fits_ag, Int.toNat_natCast, Bool.not_true, Bool.not_false, fits_int, fits_bool, fits_str, fits_sl, hq]
   cases hlq : L.leqI u a with
   | false => simp only [onR_some, onL_some, List.isEmpty_nil, allF_cons, allF_nil, Bool.and_true, Bool.true_and, when_true', List.getD_cons_zero, List.getD_cons_succ, isF_fz, toF_fz, isBool_bool, toBool_bool, isInt_int, toInt_int, isStr_str, toStr_str, isSl_sl, toSl_sl, List.length_cons, List.length_nil, List.all_cons, List.all_nil, lisFz_fz, ltoFz_fz, beq_self_eq_true, jump_true, ifB_true, ifB_false, isF_pv, isPv_pv, toV_pv, isNil_nilp, isNil_pt, isPt_pt, toAg_ag, cell_ag, isAg_ag, fits_ag, Int.toNat_natCast, Bool.not_true, Bool.not_false, fits_int, fits_bool, fits_str, fits_sl, holeP_ok I, ND.enc_fits, Bool.false_eq_true, if_false]
   | true =>
     rw [if_pos rfl]
     have loop : ∀ (j i : Nat), i + j = is.length → L_erase_under_1_0 Rt0 (is.length + 1) true (j + 1) e u a is.length i x d k c s t (is.map ND.enc) (ks.map .str) 0 0 0 0 0 ⟨#[]⟩ (((is.map (und L a u)).map ND.enc).take i ++ List.replicate (is.length - i) ND.z0.enc) =
         some (.exit 0, X_erase_under_1_0 e u x d k c s t (is.map ND.enc) (ks.map .str) 0 0 0 0 0 ⟨#[]⟩ ((is.map (und L a u)).map ND.enc)) := by
       intro j
       induction j with
       | zero =>
         intro i hij
         rw [L_erase_under_1_0_eq]
         have : ((is.map (und L a u)).map ND.enc).take i ++ List.replicate (is.length - i) ND.z0.enc = (is.map (und L a u)).map ND.enc := by
           rw [show is.length - i = 0 by omega, List.replicate_zero, List.append_nil, List.take_of_length_le (by simp; omega)]
         rw [this, decide_eq_false (show ¬ ((i : Int) < (is.length : Int)) by omega), ifB_false]
       | succ j jh =>
         intro i hij
         have hl : i < is.length := by omega
         have h1 := ih is[i] (List.getElem_mem hl) u
         have h2 := jh (i + 1) (by omega)
         push_cast at h2
         have hw : IntKind.wrap .i64 ((i : Int) + 1) = (i : Int) + 1 := wrap64 (by omega) (by omega)
         have hg : (is.map ND.enc).getD i .nilp = (is[i]).enc := by simp [hl]
         have hlen : (((is.map (und L a u)).map ND.enc).take i ++ List.replicate (is.length - i) ND.z0.enc).length = is.length := by simp; omega
         have hset := set_mix (l := (is.map (und L a u)).map ND.enc) (z := ND.z0.enc) (n := is.length) (i := i) (by simp) hl
         have hget : ((is.map (und L a u)).map ND.enc)[i]'(by simp; omega) = (und L a u is[i]).enc := by simp
         rw [hget] at hset
         have hbl : Nat.blt i is.length = true := by rw [Nat.blt_eq]; omega
         rw [L_erase_under_1_0_eq]
         simp only [List.length_map, hlen, decide_eq_true (show (i : Int) < (is.length : Int) by omega), decide_eq_true (show (0 : Int) ≤ (i : Int) by omega), ifB_true, Bool.and_true, when_true', Int.toNat_natCast, hg, ND.enc_fits, h1, onR_some, List.isEmpty_nil, allF_cons, allF_nil, List.getD_cons_zero, toF_fz, hbl, hset, hw, h2]
     have l0 := loop is.length 0 (by omega)
     rw [List.take_zero, List.nil_append, Nat.sub_zero] at l0
     simp only [Int.natCast_zero] at l0
     have ha := array_ok I u (is.map (und L a u)) (by simpa using hi)
     have roomN' := roomN hi
     simp only [onR_some, onL_some, List.isEmpty_nil, allF_cons, allF_nil, Bool.and_true, Bool.true_and, when_true', List.getD_cons_zero, List.getD_cons_succ, isF_fz, toF_fz, isBool_bool, toBool_bool, isInt_int, toInt_int, isStr_str, toStr_str, isSl_sl, toSl_sl, List.length_cons, List.length_nil, List.all_cons, List.all_nil, lisFz_fz, ltoFz_fz, beq_self_eq_true, jump_true, ifB_true, ifB_false, isF_pv, isPv_pv, toV_pv, isNil_nilp, isNil_pt, isPt_pt, toAg_ag, cell_ag, isAg_ag, fits_ag, Int.toNat_natCast, Bool.not_true, Bool.not_false, fits_int, fits_bool, fits_str, fits_sl, List.length_map, roomN', nz0, l0, X_erase_under_1_0_eq, ha, ND.enc_fits, all_fits_str]
     have hr := roomK ks hk
     rw [List.length_map] at hr
     rw [hr, when_true', ND.enc_mk, ND.enc_mk]
     simp only [onR_some, onL_some, List.isEmpty_nil, allF_cons, allF_nil, Bool.and_true, Bool.true_and, when_true', List.getD_cons_zero, List.getD_cons_succ, isF_fz, toF_fz, isBool_bool, toBool_bool, isInt_int, toInt_int, isStr_str, toStr_str, isSl_sl, toSl_sl, List.length_cons, List.length_nil, List.all_cons, List.all_nil, lisFz_fz, ltoFz_fz, beq_self_eq_true, jump_true, ifB_true, ifB_false, isF_pv, isPv_pv, toV_pv, isNil_nilp, isNil_pt, isPt_pt, toAg_ag, cell_ag, isAg_ag, fits_ag, Int.toNat_natCast, Bool.not_true, Bool.not_false, fits_int, fits_bool, fits_str, fits_sl, List.set_cons_succ, List.set_cons_zero]
theorem at_ok {e : FV} {L : Lt} (I : IsLat e L) (a : Int) {v : ND} (hv : v.Sm) : Rt0 N_erase_At [.fz (.pt 195 true e 0), .fz v.enc, .fz (.int .i64 a)] = some ([.fz (und L a L.bot v).enc], []) := by
 have h := under_ok I a hv L.bot
 have hf := (und L a L.bot v).enc_fits
 obtain ⟨x, d, k, c, s, t, is, ks⟩ := v
 have hE := E_erase_At Rt0 0 true e x d k c s t (is.map ND.enc) (ks.map .str) a
 rw [← ND.enc_mk] at hE
 refine rt_call0 A_erase_At rfl rfl 0 (hE.trans ?_)
 simp only [lat_Bottom I, onR_some, onL_some, List.isEmpty_nil, allF_cons, allF_nil, Bool.and_true, Bool.true_and, when_true', List.getD_cons_zero, List.getD_cons_succ, isF_fz, toF_fz, isBool_bool, toBool_bool, isInt_int, toInt_int, isStr_str, toStr_str, isSl_sl, toSl_sl, List.length_cons, List.length_nil, List.all_cons, List.all_nil, lisFz_fz, ltoFz_fz, beq_self_eq_true, jump_true, ifB_true, ifB_false, isF_pv, isPv_pv, toV_pv, isNil_nilp, isNil_pt, isPt_pt, toAg_ag, cell_ag, isAg_ag, fits_ag, Int.toNat_natCast, Bool.not_true, Bool.not_false, fits_int, fits_bool, fits_str, fits_sl, h, hf]
mutual
def cou (L : Lt) (a : Int) : Nat → ND → Nat
 | up, .mk x d k c s t is ks => if L.leqI (L.joinI up x) a = true then 1 + cous L a (L.joinI up x) is else 0
def cous (L : Lt) (a : Int) : Nat → List ND → Nat
 | _, [] => 0
 | up, v :: r => cou L a up v + cous L a up r
end
theorem cou_mk (L : Lt) (a : Int) (up : Nat) (x d k c s : Int) (t : ByteArray) (is : List ND) (ks : List ByteArray) : cou L a up (.mk x d k c s t is ks) = if L.leqI (L.joinI up x) a = true then 1 + cous L a (L.joinI up x) is else 0 := by simp [cou]
mutual
theorem cou_le (L : Lt) (a : Int) : ∀ (v : ND) (up : Nat), cou L a up v ≤ v.cnt
 | .mk x d k c s t is ks, up => by
  rw [cou_mk, ND.cnt_mk]
  have := cous_le L a is (L.joinI up x)
  split <;> omega
theorem cous_le (L : Lt) (a : Int) : ∀ (l : List ND) (up : Nat), cous L a up l ≤ ND.cnts l
 | [], up => by simp [cous, ND.cnts]
 | v :: r, up => by
  have h1 := cou_le L a v up
  have h2 := cous_le L a r up
  simp only [cous, ND.cnts]; omega
end
end Go.Ab
end
section
namespace Go.Ab
open Classical in
noncomputable def sameND (a b : ND) : Bool := decide (a = b)
noncomputable def sameNDs : List ND → List ND → Bool
 | [], [] => true
 | a :: l, b :: m => sameND a b && sameNDs l m
 | _, _ => false
theorem sameNDs_eq : ∀ a b : List ND, sameNDs a b = (open Classical in decide (a = b))
 | [], [] => by simp [sameNDs]
 | [], _ :: _ => by simp [sameNDs]
 | _ :: _, [] => by simp [sameNDs]
 | a :: l, b :: m => by
  rw [sameNDs, sameNDs_eq l m]
  by_cases h1 : a = b <;> by_cases h2 : l = m <;> simp [sameND, h1, h2]
theorem sameND_self (a : ND) : sameND a a = true := by simp [sameND]
theorem nsame_ok {u : ND} (hu : u.Sm) : ∀ b : ND, Rt0 N_node_Same [.fz u.enc, .fz b.enc] = some ([.fz (.bool (sameND u b))], []) := by
 induction hu with
 | @mk a d k c s t is ks hi hk ht hs h ih =>
  intro b
  obtain ⟨a', d', k', c', s', t', is', ks'⟩ := b
  have fin : ∀ (r : Bool), (r = sameND (.mk a d k c s t is ks) (.mk a' d' k' c' s' t' is' ks')) → callL Rt0 (is.length + ks.length + 1) true A_node_Same [.fz (ND.mk a d k c s t is ks).enc, .fz (ND.mk a' d' k' c' s' t' is' ks').enc] = some ([.fz (.bool r)], []) → Rt0 N_node_Same [.fz (ND.mk a d k c s t is ks).enc, .fz (ND.mk a' d' k' c' s' t' is' ks').enc] = some ([.fz (.bool (sameND (.mk a d k c s t is ks) (.mk a' d' k' c' s' t' is' ks')))], []) := fun r hr e => by
   rw [← hr]; exact rt_call0 A_node_Same rfl rfl _ e
  have loop2 : is.length = is'.length → ∀ (j : Nat) (i : Nat), i + j = is.length → onL (L_node_Same_2_0 Rt0 (is.length + ks.length + 1) true (j + ks.length + 1) is.length i a d k c s t (is.map ND.enc) (ks.map .str) a' d' k' c' s' t' (is'.map ND.enc) (ks'.map .str)) (K_node_Same_2 Rt0 (is.length + ks.length + 1) true) = some ([.fz (.bool (sameNDs (is.drop i) (is'.drop i)))], []) := by
   intro hll j
   induction j with
   | zero =>
    intro i hij
    rw [L_node_Same_2_0_eq]
    simp [show ¬ ((i : Int) < (is.length : Int)) by omega, onL_some, X_node_Same_2_1_eq, List.drop_eq_nil_of_le (show is.length ≤ i by omega), List.drop_eq_nil_of_le (show is'.length ≤ i by omega), sameNDs]
   | succ j jh =>
    intro i hij
    have hl : i < is.length := by omega
    have hl' : i < is'.length := by omega
    have h1 := ih is[i] (List.getElem_mem hl) is'[i]
    have h2 := jh (i + 1) (by omega)
    push_cast at h2
    have hw : IntKind.wrap .i64 ((i : Int) + 1) = (i : Int) + 1 := wrap64 (by omega) (by omega)
    rw [show j + 1 + ks.length + 1 = (j + ks.length + 1) + 1 by omega, L_node_Same_2_0_eq]
    rw [drop_cons hl, drop_cons hl', sameNDs]
    cases hs : sameND is[i] is'[i] with
    | true =>
     rw [hs] at h1
     simp [show (i : Int) < (is.length : Int) by omega, show (i : Int) < (is'.length : Int) by omega, List.getElem?_eq_getElem hl, List.getElem?_eq_getElem hl', h1, onR_some, hw, h2]
    | false =>
     rw [hs] at h1
     simp [show (i : Int) < (is.length : Int) by omega, show (i : Int) < (is'.length : Int) by omega, List.getElem?_eq_getElem hl, List.getElem?_eq_getElem hl', h1, onR_some, onL_some, X_node_Same_2_0_eq]
  have loop1 : is.length = is'.length → ks.length = ks'.length → ∀ (j : Nat) (i : Nat), i + j = ks.length → onL (L_node_Same_1_0 Rt0 (is.length + ks.length + 1) true (j + is.length + 1) ks.length i a d k c s t (is.map ND.enc) (ks.map .str) a' d' k' c' s' t' (is'.map ND.enc) (ks'.map .str)) (K_node_Same_1 Rt0 (is.length + ks.length + 1) true) = some ([.fz (.bool (decide (ks.drop i = ks'.drop i) && sameNDs is is'))], []) := by
   intro hll hlk j
   induction j with
   | zero =>
    intro i hij
    rw [L_node_Same_1_0_eq]
    have h2 := loop2 hll is.length 0 (by omega)
    rw [show ((0 : Nat) : Int) = 0 from rfl, List.drop_zero, List.drop_zero] at h2
    simp [show ¬ ((i : Int) < (ks.length : Int)) by omega, onL_some, X_node_Same_1_1_eq, List.drop_eq_nil_of_le (show ks.length ≤ i by omega), List.drop_eq_nil_of_le (show ks'.length ≤ i by omega), h2]
   | succ j jh =>
    intro i hij
    have hl : i < ks.length := by omega
    have hl' : i < ks'.length := by omega
    have h2 := jh (i + 1) (by omega)
    push_cast at h2
    have hw : IntKind.wrap .i64 ((i : Int) + 1) = (i : Int) + 1 := wrap64 (by omega) (by omega)
    rw [show j + 1 + is.length + 1 = (j + is.length + 1) + 1 by omega, L_node_Same_1_0_eq]
    rw [drop_cons hl, drop_cons hl', decide_cons]
    have hbe := bytes_beq ks[i] ks'[i]
    by_cases hs : ks[i] = ks'[i]
    ·rw [decide_eq_true hs] at hbe
     simp [show (i : Int) < (ks.length : Int) by omega, show (i : Int) < (ks'.length : Int) by omega, List.getElem?_eq_getElem hl, List.getElem?_eq_getElem hl', hbe, hw, h2, decide_eq_true hs]
    ·rw [decide_eq_false hs] at hbe
     simp [show (i : Int) < (ks.length : Int) by omega, show (i : Int) < (ks'.length : Int) by omega, List.getElem?_eq_getElem hl, List.getElem?_eq_getElem hl', hbe, onL_some, X_node_Same_1_0_eq, decide_eq_false hs]
  have hne : ∀ {p : Prop}, ¬ p → ((ND.mk a d k c s t is ks) = (.mk a' d' k' c' s' t' is' ks') → p) → false = sameND (.mk a d k c s t is ks) (.mk a' d' k' c' s' t' is' ks') := fun h1 h2 => by
   simp [sameND]; intro e1 e2 e3 e4 e5 e6 e7 e8; exact h1 (h2 (by rw [e1, e2, e3, e4, e5, e6, e7, e8]))
  by_cases e7 : a = a'
  case neg =>
   have b7 : (a != a') = true := by simpa using e7
   exact fin false (hne e7 (fun e => by injection e)) (by rw [ND.enc_mk, ND.enc_mk, E_node_Same]; simp only [b7, ifB_true, ifB_false])
  have b7 : (a != a') = false := by simpa using e7
  by_cases e8 : d = d'
  case neg =>
   have b8 : (d != d') = true := by simpa using e8
   exact fin false (hne e8 (fun e => by injection e)) (by rw [ND.enc_mk, ND.enc_mk, E_node_Same]; simp only [b7, b8, ifB_true, ifB_false])
  have b8 : (d != d') = false := by simpa using e8
  by_cases e1 : k = k'
  case neg =>
   have b1 : (k != k') = true := by simpa using e1
   exact fin false (hne e1 (fun e => by injection e)) (by rw [ND.enc_mk, ND.enc_mk, E_node_Same]; simp only [b7, b8, b1, ifB_true, ifB_false])
  have b1 : (k != k') = false := by simpa using e1
  by_cases e2 : c = c' ∧ s = s'
  case neg =>
   refine fin false (hne e2 (fun e => by injection e with _ _ _ a b; exact ⟨a, b⟩)) ?_
   have b2 : (c == c' && (s == s' && true)) = false := by
    rcases Classical.not_and_iff_not_or_not.1 e2 with h0 | h0 <;> simp [h0]
   rw [ND.enc_mk, ND.enc_mk, E_node_Same]
   simp only [b7, b8, b1, b2, Bool.not_false, ifB_true, ifB_false]
  have b2 : (c == c' && (s == s' && true)) = true := by simp [e2]
  by_cases e3 : t = t'
  case neg =>
   refine fin false (hne e3 (fun e => by injection e)) ?_
   have b3 := bytes_beq t t'
   rw [decide_eq_false e3] at b3
   rw [ND.enc_mk, ND.enc_mk, E_node_Same]
   simp only [b7, b8, b1, b2, b3, Bool.not_false, Bool.not_true, ifB_true, ifB_false]
  have b3 := bytes_beq t t'
  rw [decide_eq_true e3] at b3
  by_cases e4 : is.length = is'.length
  case neg =>
   refine fin false (hne e4 (fun e => by injection e with _ _ _ _ _ _ a; rw [a])) ?_
   have b4 : ((is.length : Int) != is'.length) = true := by simp; omega
   rw [ND.enc_mk, ND.enc_mk, E_node_Same]
   simp only [List.length_map, b7, b8, b1, b2, b3, b4, Bool.not_true, ifB_true, ifB_false]
  have b4 : ((is.length : Int) != is'.length) = false := by simp; omega
  by_cases e5 : ks.length = ks'.length
  case neg =>
   refine fin false (hne e5 (fun e => by injection e with _ _ _ _ _ _ _ a; rw [a])) ?_
   have b5 : ((ks.length : Int) != ks'.length) = true := by simp; omega
   rw [ND.enc_mk, ND.enc_mk, E_node_Same]
   simp only [List.length_map, b7, b8, b1, b2, b3, b4, b5, Bool.not_true, ifB_true, ifB_false]
  have b5 : ((ks.length : Int) != ks'.length) = false := by simp; omega
  have h1 := loop1 e4 e5 ks.length 0 (by omega)
  rw [show ((0 : Nat) : Int) = 0 from rfl, List.drop_zero, List.drop_zero, Nat.add_comm ks.length is.length] at h1
  obtain ⟨e2, e2'⟩ := e2
  refine fin (decide (ks = ks') && sameNDs is is') ?_ ?_
  ·rw [sameNDs_eq]
   by_cases A : ks = ks' <;> by_cases B : is = is' <;> simp [sameND, A, B, e1, e2, e2', e3, e7, e8]
  ·rw [ND.enc_mk, ND.enc_mk, E_node_Same]
   simp only [List.length_map, b7, b8, b1, b2, b3, b4, b5, Bool.not_true, jump_true, J_node_Same_3_0_eq, ifB_true, ifB_false]
   exact h1
end Go.Ab
end
section
namespace Go.Ab
def raiseN (L : Lt) (x : Int) : ND → ND
 | .mk a d k c s t is ks => .mk (L.joinI a x) (L.joinI d x) k c s t is ks
mutual
def swp (L : Lt) (a : Int) (m : ND) : Nat → ND → ND
 | up, .mk x d k c s t is ks => if L.leqI (L.joinI up x) a = true then .mk x (deepP L x.toNat (swps L a m (L.joinI up x) is)) k c s t (swps L a m (L.joinI up x) is) ks else raiseN L x m
def swps (L : Lt) (a : Int) (m : ND) : Nat → List ND → List ND
 | _, [] => []
 | up, v :: r => swp L a m up v :: swps L a m up r
end
theorem alike_ok {e : FV} {L : Lt} (I : IsLat e L) (a : Int) {v m : ND} (hv : v.Sm) (hm : m.Sm) : Rt0 N_erase_Alike [.fz (.pt 195 true e 0), .fz v.enc, .fz m.enc, .fz (.int .i64 a)] = some ([.fz (.bool (sameND (und L a L.bot v) (und L a L.bot m)))], []) := by
 have h1 := at_ok I a hv
 have h2 := at_ok I a hm
 have hs := nsame_ok (und_sm (L := L) (a := a) hv L.bot) (und L a L.bot m)
 obtain ⟨x, d, k, c, s, t, is, ks⟩ := v
 obtain ⟨x', d', k', c', s', t', is', ks'⟩ := m
 have hE := E_erase_Alike Rt0 0 true e x d k c s t (is.map ND.enc) (ks.map .str) x' d' k' c' s' t' (is'.map ND.enc) (ks'.map .str) a
 rw [← ND.enc_mk, ← ND.enc_mk] at hE
 refine rt_call0 A_erase_Alike rfl rfl 0 (hE.trans ?_)
 simp only [onR_some, onL_some, List.isEmpty_nil, allF_cons, allF_nil, Bool.and_true, Bool.true_and, when_true', List.getD_cons_zero, List.getD_cons_succ, isF_fz, toF_fz, isBool_bool, toBool_bool, isInt_int, toInt_int, isStr_str, toStr_str, isSl_sl, toSl_sl, List.length_cons, List.length_nil, List.all_cons, List.all_nil, lisFz_fz, ltoFz_fz, beq_self_eq_true, jump_true, ifB_true, ifB_false, isF_pv, isPv_pv, toV_pv, isNil_nilp, isNil_pt, isPt_pt, toAg_ag, cell_ag, isAg_ag, fits_ag, Int.toNat_natCast, Bool.not_true, Bool.not_false, fits_int, fits_bool, fits_str, fits_sl, h1, h2, hs]
end Go.Ab
end
section
namespace Go.Ab
theorem hole_lab {L : Lt} (O : L.Ok) : labB L (holeN L) = true ∧ rightB L (holeN L) = true := by
 have := O.top
 refine ⟨?_, ?_⟩
 ·simp [holeN, labB_mk, labBs, Lt.is_nat, this]
 ·simp [holeN, rightB_mk, rightBs, deepNs]
theorem und_lab {L : Lt} (O : L.Ok) {a : Int} {v : ND} (hv : v.Sm) : ∀ up : Nat, labB L (und L a up v) = true ∧ rightB L (und L a up v) = true := by
 induction hv with
 | @mk x d k c s t is ks hi hk ht hs h ih =>
  intro up
  rw [und_mk]
  split
  ·have hlt := O.joinI_lt up x
   have h1 : labBs L (is.map (und L a (L.joinI up x))) = true := labBs_iff.2 fun y hy => by
    obtain ⟨z, hz, rfl⟩ := List.mem_map.1 hy; exact (ih z hz _).1
   have h2 : rightBs L (is.map (und L a (L.joinI up x))) = true := rightBs_iff.2 fun y hy => by
    obtain ⟨z, hz, rfl⟩ := List.mem_map.1 hy; exact (ih z hz _).2
   rw [labB_mk, rightB_mk, h1, h2, Int.toNat_natCast, deepP_eq O _ _ hlt h1 h2]
   simp [Lt.is_nat, hlt]
  ·exact hole_lab O
mutual
theorem cou_mono {L : Lt} (O : L.Ok) {a b : Nat} (ha : a < L.n) (hb : b < L.n) (hab : L.leq a b = true) : ∀ (v : ND) (up : Nat), cou L a up v ≤ cou L b up v
 | .mk x d k c s t is ks, up => by
  have hu := O.joinI_lt up x
  rw [cou_mk, cou_mk, Lt.leqI_nat hu ha, Lt.leqI_nat hu hb]
  by_cases h : L.leq (L.joinI up x) a = true
  ·rw [if_pos h, if_pos (O.trans _ _ _ hu ha hb h hab)]
   have := cous_mono O ha hb hab is (L.joinI up x)
   omega
  ·rw [if_neg h]; omega
theorem cous_mono {L : Lt} (O : L.Ok) {a b : Nat} (ha : a < L.n) (hb : b < L.n) (hab : L.leq a b = true) : ∀ (l : List ND) (up : Nat), cous L a up l ≤ cous L b up l
 | [], up => by simp [cous]
 | v :: r, up => by
  have h1 := cou_mono O ha hb hab v up
  have h2 := cous_mono O ha hb hab r up
  simp only [cous]; omega
end
mutual
theorem cou_top {L : Lt} (O : L.Ok) : ∀ (v : ND) (up : Nat), cou L L.top up v = v.cnt
 | .mk x d k c s t is ks, up => by
  have hu := O.joinI_lt up x
  rw [cou_mk, Lt.leqI_nat hu O.top, if_pos (O.letop _ hu), cous_top O is, ND.cnt_mk]
theorem cous_top {L : Lt} (O : L.Ok) : ∀ (l : List ND) (up : Nat), cous L L.top up l = ND.cnts l
 | [], up => by simp [cous, ND.cnts]
 | v :: r, up => by rw [cous, ND.cnts, cou_top O v, cous_top O r]
end
mutual
def seeN : ND → Nat
 | .mk _ _ k _ _ _ is _ => if k = 8 then 0 else 1 + seeNs is
def seeNs : List ND → Nat
 | [] => 0
 | v :: r => seeN v + seeNs r
end
theorem seeN_mk (a d k c s : Int) (t : ByteArray) (is : List ND) (ks : List ByteArray) : seeN (.mk a d k c s t is ks) = if k = 8 then 0 else 1 + seeNs is := by simp [seeN]
theorem shape_kind {k c s : Int} {t : ByteArray} {is : List JV} {ks : List ByteArray} (h : shapeB (.mk k c s t is ks) = true) : k ≠ 8 := by
 rw [shapeB_mk, Bool.and_eq_true, Bool.and_eq_true] at h
 have h1 := h.2.1
 simp only [isR, Bool.and_eq_true, Bool.not_eq_true', decide_eq_false_iff_not] at h1
 omega
mutual
theorem see_und (L : Lt) (a : Int) : ∀ (v : ND) (up : Nat), shapeB (strip v) = true → seeN (und L a up v) = cou L a up v
 | .mk x d k c s t is ks, up, h => by
  rw [strip_mk] at h
  have hk := shape_kind h
  rw [shapeB_mk, Bool.and_eq_true, Bool.and_eq_true, ← strips_eq] at h
  have ih := see_unds L a is (L.joinI up x) h.2.2
  rw [unds_eq] at ih
  rw [und_mk, cou_mk]
  split
  ·rw [seeN_mk, if_neg hk, ih]
  ·rw [holeN, seeN_mk, if_pos rfl]
theorem see_unds (L : Lt) (a : Int) : ∀ (l : List ND) (up : Nat), shapeBs (strips l) = true → seeNs (unds L a up l) = cous L a up l
 | [], up, _ => by simp [unds, cous, seeNs]
 | v :: r, up, h => by
  rw [strips, shapeBs, Bool.and_eq_true] at h
  rw [unds, seeNs, cous, see_und L a v up h.1, see_unds L a r up h.2]
end
mutual
theorem see_le : ∀ v : ND, seeN v ≤ v.cnt
 | .mk x d k c s t is ks => by
  rw [seeN_mk, ND.cnt_mk]
  have := sees_le is
  split <;> omega
theorem sees_le : ∀ l : List ND, seeNs l ≤ ND.cnts l
 | [] => by simp [seeNs, ND.cnts]
 | v :: r => by
  have h1 := see_le v
  have h2 := sees_le r
  simp only [seeNs, ND.cnts]; omega
end
mutual
theorem und_cnt (L : Lt) (a : Int) : ∀ (v : ND) (up : Nat), (und L a up v).cnt ≤ v.cnt
 | .mk x d k c s t is ks, up => by
  have ih := unds_cnt L a is (L.joinI up x)
  rw [unds_eq] at ih
  rw [und_mk, ND.cnt_mk]
  split
  ·rw [ND.cnt_mk]; omega
  ·rw [holeN, ND.cnt_mk]; simp [ND.cnts]
theorem unds_cnt (L : Lt) (a : Int) : ∀ (l : List ND) (up : Nat), ND.cnts (unds L a up l) ≤ ND.cnts l
 | [], up => by simp [unds, ND.cnts]
 | v :: r, up => by
  have h1 := und_cnt L a v up
  have h2 := unds_cnt L a r up
  simp only [unds, ND.cnts]; omega
end
end Go.Ab
end
section
namespace Go.Ab
def hole12 : List UInt8 := [123, 34, 35, 34, 58, 110, 117, 108, 108, 125]
def bodyT (k c s : Int) (t : ByteArray) (m : List UInt8) : List UInt8 :=
  if k = 7 then [123, 34, 35, 33, 34, 58] ++ qT t ++ [125]
  else if k = 0 then [110, 117, 108, 108]
  else if k = 1 then [102, 97, 108, 115, 101]
  else if k = 2 then [116, 114, 117, 101]
  else if k = 3 then numT c s
  else if k = 4 then qT t
  else if k = 6 then 123 :: (m ++ [125])
  else 91 :: (m ++ [93])
def cma : Bool → List UInt8 | true => [] | false => [44]
mutual
def shT (nm : List ByteArray) : Int → ND → List UInt8
 | up, .mk x d k c s t is ks =>
  if k = 8 then hole12
  else if x = up then bodyT k c s t (shTs nm x k true is ks)
  else [123, 34, 35, 34, 58] ++ qT (nm.getD x.toNat ⟨#[]⟩) ++ [44, 34, 61, 34, 58] ++ bodyT k c s t (shTs nm x k true is ks) ++ [125]
def shTs (nm : List ByteArray) : Int → Int → Bool → List ND → List ByteArray → List UInt8
 | _, _, _, [], _ => []
 | x, k, first, v :: r, ks => cma first ++ ((if k = 6 then qT (keyL (ks.headD ⟨#[]⟩)) ++ [58] else []) ++ (shT nm x v ++ shTs nm x k false r ks.tail))
end
theorem shT_mk (nm : List ByteArray) (up x d k c s : Int) (t : ByteArray) (is : List ND) (ks : List ByteArray) : shT nm up (.mk x d k c s t is ks) = if k = 8 then hole12 else if x = up then bodyT k c s t (shTs nm x k true is ks) else [123, 34, 35, 34, 58] ++ qT (nm.getD x.toNat ⟨#[]⟩) ++ [44, 34, 61, 34, 58] ++ bodyT k c s t (shTs nm x k true is ks) ++ [125] := by simp [shT]
theorem shTs_cons (nm : List ByteArray) (x k : Int) (first : Bool) (v : ND) (r : List ND) (ks : List ByteArray) : shTs nm x k first (v :: r) ks = cma first ++ ((if k = 6 then qT (keyL (ks.headD ⟨#[]⟩)) ++ [58] else []) ++ (shT nm x v ++ shTs nm x k false r ks.tail)) := by
 rw [shTs]
inductive TOk (nm : List ByteArray) : ND → Prop where
  | mk {x d k c s : Int} {t : ByteArray} {is : List ND} {ks : List ByteArray} (hx : k ≠ 8 → 0 ≤ x ∧ x < nm.length) (hk : k ≠ 8 → 0 ≤ k ∧ k ≤ 7) (h3 : k = 3 → num4B c s = true) (ht : k ≠ 8 → textB t = true)
      (hks : k = 6 → ks.length = is.length) (hkt : ∀ s ∈ ks, textB s = true) (hi : k ≠ 5 → k ≠ 6 → is = []) (h : ∀ v ∈ is, TOk nm v) : TOk nm (.mk x d k c s t is ks)
def NmOk (nm : List ByteArray) : Prop := ∀ s ∈ nm, s.size ≤ 134217728 ∧ textB s = true
theorem numT_len {c s : Int} (h : num4B c s = true) : 1 ≤ (numT c s).length ∧ (numT c s).length ≤ 100 := by
 obtain ⟨h1, h2, h3, h4⟩ := num4_facts h
 have hd := dg_len_pos (c.natAbs / 10 ^ s.toNat)
 have hl := dg_len_le 14 (c.natAbs / 10 ^ s.toNat) (Nat.lt_of_le_of_lt (Nat.div_le_self _ _) (by omega))
 have hp := pd_len s.toNat c.natAbs
 unfold numT nBody
 have e1 : (if c < 0 then [(45 : UInt8)] else []).length ≤ 1 := by split <;> simp
 have e2 : (if s.toNat = 0 then [] else (46 : UInt8) :: pd s.toNat c.natAbs).length ≤ 10 := by
  split
  ·simp
  ·simp only [List.length_cons]; omega
 simp only [List.length_append]
 omega
theorem bodyT_len {k c s : Int} {t : ByteArray} (m : List UInt8) (h3 : k = 3 → num4B c s = true) (ht : t.size ≤ 134217728) : (bodyT k c s t m).length ≤ 805306400 + m.length := by
 have hq := qT_len t
 unfold bodyT
 split
 ·simp only [List.length_append, List.length_cons, List.length_nil]; omega
 split
 ·simp only [List.length_cons, List.length_nil]; omega
 split
 ·simp only [List.length_cons, List.length_nil]; omega
 split
 ·simp only [List.length_cons, List.length_nil]; omega
 split
 ·rename_i h
  have := numT_len (h3 h)
  omega
 split
 ·omega
 split <;> (simp only [List.length_append, List.length_cons, List.length_nil]; omega)
theorem bodyT_pos {k c s : Int} {t : ByteArray} (m : List UInt8) (h3 : k = 3 → num4B c s = true) (ht : textB t = true) : 1 ≤ (bodyT k c s t m).length := by
 have hq := qT_pos ht
 unfold bodyT
 split
 ·simp only [List.length_append, List.length_cons, List.length_nil]; omega
 split
 ·simp
 split
 ·simp
 split
 ·simp
 split
 ·rename_i h
  exact (numT_len (h3 h)).1
 split
 ·omega
 split <;> simp
theorem nm_getD {nm : List ByteArray} (hn : NmOk nm) (i : Nat) : (nm.getD i ⟨#[]⟩).size ≤ 134217728 := by
 rw [List.getD_eq_getElem?_getD]
 cases h : nm[i]? with
 | none => simp [ByteArray.size]
 | some s => exact (hn s (List.mem_of_getElem? h)).1
theorem sh_len {nm : List ByteArray} (hn : NmOk nm) {v : ND} (hv : v.Sm) : TOk nm v → ∀ up : Int, (shT nm up v).length + 805306400 ≤ 4294967296 * v.cnt := by
 induction hv with
 | @mk x d k c s t is ks hi hk ht hs h ih =>
  intro hT up
  cases hT with
  | mk hx hkk h3 htt hks hkt hii hh =>
   have items : ∀ (l : List ND) (kk : List ByteArray) (first : Bool), (∀ v ∈ l, v ∈ is) → (∀ s ∈ kk, s.size ≤ 134217728) → (shTs nm x k first l kk).length ≤ 4294967296 * ND.cnts l := by
    intro l
    induction l with
    | nil => intro kk first _ _; simp [shTs]
    | cons v r ihr =>
     intro kk first hl hkk
     have h1 := ih v (hl v (List.mem_cons_self ..)) (hh v (hl v (List.mem_cons_self ..))) x
     have h2 := ihr kk.tail false (fun y hy => hl y (List.mem_cons_of_mem _ hy)) (fun s hs => hkk s (List.mem_of_mem_tail hs))
     have h3 : (kk.headD ⟨#[]⟩).size ≤ 134217728 := by
      cases kk with
      | nil => simp [ByteArray.size]
      | cons a b => exact hkk a (List.mem_cons_self ..)
     have h4 := qT_len (keyL (kk.headD ⟨#[]⟩))
     have h5 := keyL_size (kk.headD ⟨#[]⟩)
     have h6 : (if k = 6 then qT (keyL (kk.headD ⟨#[]⟩)) ++ [(58 : UInt8)] else []).length ≤ 805306390 := by
      split
      ·simp only [List.length_append, List.length_cons, List.length_nil]; omega
      ·simp
     have h7 : (cma first).length ≤ 1 := by cases first <;> simp [cma]
     rw [shTs_cons, ND.cnts]
     simp only [List.length_append]
     omega
   have hi' := items is ks true (fun _ h => h) hs
   have hb := bodyT_len (k := k) (c := c) (s := s) (t := t) (shTs nm x k true is ks) h3 ht
   have hq := qT_len (nm.getD x.toNat ⟨#[]⟩)
   have hg := nm_getD hn x.toNat
   rw [shT_mk, ND.cnt_mk]
   split
   ·simp only [hole12, List.length_cons, List.length_nil]; omega
   split
   ·omega
   ·simp only [List.length_append, List.length_cons, List.length_nil]; omega
theorem sh_pos {nm : List ByteArray} {v : ND} (hT : TOk nm v) (up : Int) : 1 ≤ (shT nm up v).length := by
 cases hT with
 | @mk x d k c s t is ks hx hkk h3 htt hks hkt hii hh =>
  rw [shT_mk]
  split
  ·simp [hole12]
  ·rename_i h8
   have := bodyT_pos (k := k) (c := c) (s := s) (t := t) (shTs nm x k true is ks) h3 (htt h8)
   split
   ·exact this
   ·simp only [List.length_append, List.length_cons, List.length_nil]; omega
end Go.Ab
end
section
namespace Go.Ab
theorem rtext6 {k c s : Int} {t : ByteArray} (hk : 0 ≤ k ∧ k ≤ 4) (h3 : k = 3 → num4B c s = true) (hz : t.size ≤ 134217728) (ht : textB t = true) (m : List UInt8) :
    Rt0 N_ref06_Text [.fz (.ag [.int .i64 k, .int .i64 c, .int .i64 s, .str t, .sl [], .sl []])] = some ([.fz (.str (qB (bodyT k c s t m)))], []) := by
  refine rt_call0 A_ref06_Text rfl rfl 0 ?_
  rw [E_ref06_Text]
  obtain h | h | h | h | h : k = 0 ∨ k = 1 ∨ k = 2 ∨ k = 3 ∨ k = 4 := by omega
  · subst h; rfl
  · subst h; rfl
  · subst h; rfl
  · subst h
    have hb : bodyT 3 c s t m = numT c s := rfl
    rw [hb]
    have := rnum_ok (h3 rfl)
    rw [show ((3 : Int) == 0) = false from rfl, show ((3 : Int) == 1) = false from rfl, show ((3 : Int) == 2) = false from rfl, show ((3 : Int) == 3) = true from rfl, ifB_false, ifB_false, ifB_false, ifB_true, this]
    simp only [onR_some, onL_some, List.isEmpty_nil, allF_cons, allF_nil, Bool.and_true, Bool.true_and, when_true', List.getD_cons_zero, List.getD_cons_succ, isF_fz, toF_fz, isBool_bool, toBool_bool, isInt_int, toInt_int, isStr_str, toStr_str, isSl_sl, toSl_sl, List.length_cons, List.length_nil, List.all_cons, List.all_nil, lisFz_fz, ltoFz_fz, beq_self_eq_true, jump_true, ifB_true, ifB_false, isF_pv, isPv_pv, toV_pv, isNil_nilp, isNil_pt, isPt_pt, toAg_ag, cell_ag, isAg_ag, fits_ag, Int.toNat_natCast, Bool.not_true, Bool.not_false, fits_int, fits_bool, fits_str, fits_sl]
  · subst h
    have hb : bodyT 4 c s t m = qT t := rfl
    rw [hb]
    have := rq6_ok hz ht
    rw [show ((4 : Int) == 0) = false from rfl, show ((4 : Int) == 1) = false from rfl, show ((4 : Int) == 2) = false from rfl, show ((4 : Int) == 3) = false from rfl, show ((4 : Int) == 4) = true from rfl, ifB_false, ifB_false, ifB_false, ifB_false, ifB_true, this]
    simp only [onR_some, onL_some, List.isEmpty_nil, allF_cons, allF_nil, Bool.and_true, Bool.true_and, when_true', List.getD_cons_zero, List.getD_cons_succ, isF_fz, toF_fz, isBool_bool, toBool_bool, isInt_int, toInt_int, isStr_str, toStr_str, isSl_sl, toSl_sl, List.length_cons, List.length_nil, List.all_cons, List.all_nil, lisFz_fz, ltoFz_fz, beq_self_eq_true, jump_true, ifB_true, ifB_false, isF_pv, isPv_pv, toV_pv, isNil_nilp, isNil_pt, isPt_pt, toAg_ag, cell_ag, isAg_ag, fits_ag, Int.toNat_natCast, Bool.not_true, Bool.not_false, fits_int, fits_bool, fits_str, fits_sl]
theorem cnt_le_of_mem : ∀ {l : List ND} {v : ND}, v ∈ l → v.cnt ≤ ND.cnts l
 | u :: r, v, h => by
  rw [ND.cnts]
  rcases List.mem_cons.1 h with rfl | h
  ·omega
  ·have := cnt_le_of_mem h
   omega
theorem rq12k {s : ByteArray} (ht : textB s = true) (hs : s.size ≤ 134217728) : Rt0 N_ref12_quote [.fz (.str (keyL s))] = some ([.fz (.str (qB (qT (keyL s))))], []) := by
 have hz := keyL_size s
 have ht' := keyL_text ht
 have hsg := signs_ok (keyL s) (by omega)
 have h2 : ∃ cs : List Int, Rt0 N_ref03_Signs [.fz (.str (keyL s))] = some ([.fz (.sl (cs.map (.int .i64))), .fz (.bool true)], []) ∧ Rt0 N_ref03_Quote [.fz (.sl (cs.map (.int .i64)))] = some ([.fz (.str (qB (qT (keyL s))))], []) := by
  unfold textB at ht'
  unfold qT
  cases hv : signsL (keyL s).data.toList with
  | none => rw [hv] at ht'; cases ht'
  | some cs =>
   rw [hv] at hsg
   have hS := sgAt_start hv
   have hle := hS.len (Nat.zero_le _)
   exact ⟨cs, hsg, rquote_ok cs (by omega) hS.fine⟩
 obtain ⟨cs, h1, h2⟩ := h2
 refine rt_call0 A_ref12_quote rfl rfl 0 ?_
 rw [E_ref12_quote, h1]
 simp only [onR_some, onL_some, List.isEmpty_nil, allF_cons, allF_nil, Bool.and_true, Bool.true_and, when_true', List.getD_cons_zero, List.getD_cons_succ, isF_fz, toF_fz, isBool_bool, toBool_bool, isInt_int, toInt_int, isStr_str, toStr_str, isSl_sl, toSl_sl, List.length_cons, List.length_nil, List.all_cons, List.all_nil, lisFz_fz, ltoFz_fz, beq_self_eq_true, jump_true, ifB_true, ifB_false, isF_pv, isPv_pv, toV_pv, isNil_nilp, isNil_pt, isPt_pt, toAg_ag, cell_ag, isAg_ag, fits_ag, Int.toNat_natCast, Bool.not_true, Bool.not_false, fits_int, fits_bool, fits_str, fits_sl, h2]
theorem key_cases {β : Type} (k : ByteArray) (hk : k.size ≤ 134217728) (F : ByteArray → Option β) {r : Option β} (h : ∀ kk, kk = keyL k → F kk = r) :
    ifB (decide ((k.size : Int) > 0)) (when (decide (0 < (k.size : Int))) (ifB ((((Array.getD k.data 0 0).toNat : Nat) : Int) == 35) (when (decide ((⟨#[35]⟩ : ByteArray).size + k.size ≤ 2 ^ 62)) (F ((⟨#[35]⟩ : ByteArray) ++ k))) (F k))) (F k) = r := by
  have hd : decide ((⟨#[35]⟩ : ByteArray).size + k.size ≤ 2 ^ 62) = true := decide_eq_true (by show 1 + k.size ≤ _; omega)
  have e : (⟨#[35]⟩ : ByteArray) ++ k = qB (35 :: k.data.toList) := by
    have := qBapp [35] k.data.toList
    rw [qB_self] at this
    exact this
  rw [hd, when_true', e]
  obtain ⟨⟨l⟩⟩ := k
  have hsz : (({ data := ⟨l⟩ } : ByteArray).size) = l.length := rfl
  rw [hsz]
  cases l with
  | nil => exact h _ rfl
  | cons b r' =>
    have d1 : decide ((((b :: r').length : Nat) : Int) > 0) = true := decide_eq_true (by simp only [List.length_cons]; omega)
    have d2 : decide (0 < (((b :: r').length : Nat) : Int)) = true := decide_eq_true (by simp only [List.length_cons]; omega)
    have hg : Array.getD (ByteArray.data { data := ⟨b :: r'⟩ }) 0 0 = b := rfl
    rw [d1, ifB_true, when_true', hg]
    by_cases g : b = 35
    · subst g
      rw [show ((((35 : UInt8).toNat : Nat) : Int) == 35) = true from rfl, ifB_true]
      exact h _ rfl
    · have g2 : (((b.toNat : Nat) : Int) == 35) = false := by
        rw [beq_eq_false_iff_ne]
        intro e
        exact g (UInt8.toNat_inj.1 (by show b.toNat = 35; omega))
      rw [g2, ifB_false]
      refine h _ ?_
      unfold keyL mk35
      rw [if_neg]
      simpa using g
theorem bodyT_items {k c s : Int} {t : ByteArray} (h : k = 5 ∨ k = 6) (m : List UInt8) : bodyT k c s t m = (if k = 6 then 123 else 91) :: (m ++ [if k = 6 then 125 else 93]) := by
 rcases h with rfl | rfl <;> rfl
set_option maxRecDepth 20000 in
theorem rtext12 {nm : List ByteArray} (hn : NmOk nm) {v : ND} (hv : v.Sm) : TOk nm v → v.cnt ≤ 10000 → ∀ up : Int, Rt0 N_ref12_text [.fz (.sl (nm.map .str)), .fz v.enc, .fz (.int .i64 up)] = some ([.fz (.str (qB (shT nm up v)))], []) := by
 induction hv with
 | @mk x d k c s t is ks hi hk ht hs h ih =>
   intro hT hcnt up
   have hlen := sh_len hn (ND.Sm.mk hi hk ht hs h) hT up
   have hlx := sh_len hn (ND.Sm.mk hi hk ht hs h) hT x
   have hT' := hT
   cases hT with
   | mk hx hkk h3 htt hks hkt hii hh =>
   rw [shT_mk] at hlen
   rw [shT_mk] at hlx
   refine rt_call0 A_ref12_text rfl rfl 0 ?_
   rw [ND.enc_mk, E_ref12_text, shT_mk]
   by_cases h8 : k = 8
   · rw [show (k == 8) = true by simp [h8], ifB_true, if_pos h8]
     rfl
   have hx := hx h8
   have hkk := hkk h8
   have htt := htt h8
   rw [if_neg h8] at hlen
   rw [if_neg h8, if_pos rfl] at hlx
   have hcn : (ND.mk x d k c s t is ks).cnt ≤ 10000 := hcnt
   -- the body
   have body : Rt0 N_ref12_body [.fz (.sl (nm.map .str)), .fz (.ag [.int .i64 x, .int .i64 d, .int .i64 k, .int .i64 c, .int .i64 s, .str t, .sl (is.map ND.enc), .sl (ks.map .str)])] = some ([.fz (.str (qB (bodyT k c s t (shTs nm x k true is ks))))], []) := by
     refine rt_call0 A_ref12_body rfl rfl (is.length + 1) ?_
     rw [E_ref12_body]
     by_cases h7 : k = 7
     · have := rq12_ok ht htt
       have hq := qT_len t
       subst h7
       have hb : bodyT 7 c s t (shTs nm x 7 true is ks) = [123, 34, 35, 33, 34, 58] ++ qT t ++ [125] := rfl
       rw [show ((7 : Int) == 7) = true from rfl, ifB_true, this, hb]
       simp only [onR_some, onL_some, List.isEmpty_nil, allF_cons, allF_nil, Bool.and_true, Bool.true_and, when_true', List.getD_cons_zero, List.getD_cons_succ, isF_fz, toF_fz, isBool_bool, toBool_bool, isInt_int, toInt_int, isStr_str, toStr_str, isSl_sl, toSl_sl, List.length_cons, List.length_nil, List.all_cons, List.all_nil, lisFz_fz, ltoFz_fz, beq_self_eq_true, jump_true, ifB_true, ifB_false, isF_pv, isPv_pv, toV_pv, isNil_nilp, isNil_pt, isPt_pt, toAg_ag, cell_ag, isAg_ag, fits_ag, Int.toNat_natCast, Bool.not_true, Bool.not_false, fits_int, fits_bool, fits_str, fits_sl, show (⟨#[123, 34, 35, 33, 34, 58]⟩ : ByteArray) = qB [123, 34, 35, 33, 34, 58] from rfl, show (⟨#[125]⟩ : ByteArray) = qB [125] from rfl]
       rw [qLe (by simp only [List.length_cons, List.length_nil]; omega), when_true', qBapp, qLe (by simp only [List.length_append, List.length_cons, List.length_nil]; omega), when_true', qBapp]
     rw [show (k == 7) = false by simpa using h7, ifB_false]
     by_cases h56 : k = 5 ∨ k = 6
     · have items : ∀ (j i : Nat) (acc : List UInt8), i + j = is.length → acc.length + (shTs nm x k (decide (i = 0)) (is.drop i) (ks.drop i)).length ≤ 100000000000000 →
           L_ref12_body_1_0 Rt0 (is.length + 1) true (j + 1) (nm.map .str) (qB acc) i x d k c s t (is.map ND.enc) (ks.map .str) = some (.exit 0, X_ref12_body_1_0 (qB (acc ++ shTs nm x k (decide (i = 0)) (is.drop i) (ks.drop i))) x d k c s t (is.map ND.enc) (ks.map .str)) := by
         intro j
         induction j with
         | zero =>
           intro i acc hij hacc
           rw [L_ref12_body_1_0_eq, List.drop_eq_nil_of_le (by omega)]
           simp only [List.length_map, decide_eq_false (show ¬ ((i : Int) < (is.length : Int)) by omega), ifB_false, shTs, List.append_nil]
         | succ j jh =>
           intro i acc hij hacc
           have hl : i < is.length := by omega
           have hci : (is[i]).cnt ≤ 10000 := by
             have := cnt_le_of_mem (List.getElem_mem hl)
             rw [ND.cnt_mk] at hcn
             omega
           have hrec := ih is[i] (List.getElem_mem hl) (hh _ (List.getElem_mem hl)) hci x
           have hw : IntKind.wrap .i64 ((i : Int) + 1) = ((i + 1 : Nat) : Int) := by rw [wrap64 (by omega) (by omega)]; rfl
           have hg : (is.map ND.enc).getD i .nilp = (is[i]).enc := by simp [hl]
           rw [drop_cons hl, shTs_cons] at hacc ⊢
           have htl : ks.drop (i + 1) = (ks.drop i).tail := by rw [List.tail_drop]
           have hf1 : decide (i + 1 = 0) = false := decide_eq_false (by omega)
           simp only [List.length_append] at hacc
           -- the item itself
           have hJ3 : ∀ acc2 : List UInt8, acc2.length + (shT nm x is[i]).length + (shTs nm x k false (is.drop (i + 1)) (ks.drop i).tail).length ≤ 100000000000000 →
               J_ref12_body_3_0 Rt0 (is.length + 1) true (j + 1) (nm.map .str) (qB acc2) i x d k c s t (is.map ND.enc) (ks.map .str) = some (.exit 0, X_ref12_body_1_0 (qB (acc2 ++ (shT nm x is[i] ++ shTs nm x k false (is.drop (i + 1)) (ks.drop i).tail))) x d k c s t (is.map ND.enc) (ks.map .str)) := by
             intro acc2 h2
             have hj := jh (i + 1) (acc2 ++ shT nm x is[i]) (by omega) (by rw [hf1, List.length_append, htl]; exact h2)
             rw [hf1, htl, List.append_assoc] at hj
             rw [J_ref12_body_3_0_eq]
             simp only [List.length_map, decide_eq_true (show (i : Int) < (is.length : Int) by omega), decide_eq_true (show (0 : Int) ≤ (i : Int) by omega), Bool.and_true, when_true', Int.toNat_natCast, hg, ND.enc_fits, hrec, onR_some, List.isEmpty_nil, allF_cons, allF_nil, List.getD_cons_zero, isF_fz, toF_fz, isStr_str, toStr_str, hw]
             rw [qLe (by omega), when_true', qBapp]
             exact hj
           have hJ5 : ∀ acc1 : List UInt8, acc1.length + ((if k = 6 then qT (keyL ((ks.drop i).headD ⟨#[]⟩)) ++ [58] else []).length + ((shT nm x is[i]).length + (shTs nm x k false (is.drop (i + 1)) (ks.drop i).tail).length)) ≤ 100000000000000 →
               J_ref12_body_5_0 Rt0 (is.length + 1) true (j + 1) (nm.map .str) (qB acc1) i x d k c s t (is.map ND.enc) (ks.map .str) = some (.exit 0, X_ref12_body_1_0 (qB (acc1 ++ ((if k = 6 then qT (keyL ((ks.drop i).headD ⟨#[]⟩)) ++ [58] else []) ++ (shT nm x is[i] ++ shTs nm x k false (is.drop (i + 1)) (ks.drop i).tail)))) x d k c s t (is.map ND.enc) (ks.map .str)) := by
             intro acc1 h1
             rw [J_ref12_body_5_0_eq]
             by_cases h6 : k = 6
             · have hlk : i < ks.length := by have := hks h6; omega
               have hhd : (ks.drop i).headD ⟨#[]⟩ = ks[i] := by rw [drop_cons hlk]; rfl
               have hgk : (ks.map FV.str).getD i .nilp = .str ks[i] := by simp [hlk]
               have hsz := hs ks[i] (List.getElem_mem hlk)
               have hq := rq12_ok (s := keyL ks[i]) 
               have hkey : ∀ kk : ByteArray, kk = keyL ks[i] → J_ref12_body_2_0 Rt0 (is.length + 1) true (j + 1) (nm.map .str) (qB acc1) i kk x d k c s t (is.map ND.enc) (ks.map .str) = some (.exit 0, X_ref12_body_1_0 (qB (acc1 ++ (qT (keyL ks[i]) ++ [58] ++ (shT nm x is[i] ++ shTs nm x k false (is.drop (i + 1)) (ks.drop i).tail)))) x d k c s t (is.map ND.enc) (ks.map .str)) := by
                 intro kk e
                 subst e
                 rw [if_pos h6, hhd, List.length_append, List.length_cons, List.length_nil] at h1
                 have hqq := rq12k (hkt _ (List.getElem_mem hlk)) hsz
                 have h3' := hJ3 (acc1 ++ (qT (keyL ks[i]) ++ [58])) (by simp only [List.length_append, List.length_cons, List.length_nil]; omega)
                 rw [J_ref12_body_2_0_eq, hqq]
                 simp only [onR_some, onL_some, List.isEmpty_nil, allF_cons, allF_nil, Bool.and_true, Bool.true_and, when_true', List.getD_cons_zero, List.getD_cons_succ, isF_fz, toF_fz, isBool_bool, toBool_bool, isInt_int, toInt_int, isStr_str, toStr_str, isSl_sl, toSl_sl, List.length_cons, List.length_nil, List.all_cons, List.all_nil, lisFz_fz, ltoFz_fz, beq_self_eq_true, jump_true, ifB_true, ifB_false, isF_pv, isPv_pv, toV_pv, isNil_nilp, isNil_pt, isPt_pt, toAg_ag, cell_ag, isAg_ag, fits_ag, Int.toNat_natCast, Bool.not_true, Bool.not_false, fits_int, fits_bool, fits_str, fits_sl, show (⟨#[58]⟩ : ByteArray) = qB [58] from rfl]
                 rw [qLe (by omega), when_true', qBapp, qLe (by simp only [List.length_append, List.length_cons, List.length_nil]; omega), when_true', qBapp]
                 rw [← List.append_assoc acc1] at h3'
                 rw [h3']
                 simp only [List.append_assoc]
               rw [show (k == 6) = true by simp [h6], ifB_true, if_pos h6, hhd]
               simp only [List.length_map, decide_eq_true (show (i : Int) < (ks.length : Int) by omega), decide_eq_true (show (0 : Int) ≤ (i : Int) by omega), Bool.and_true, when_true', Int.toNat_natCast, hgk, fits_str, isStr_str, toStr_str, jump_true]
               exact key_cases ks[i] hsz (fun kk => J_ref12_body_2_0 Rt0 (is.length + 1) true (j + 1) (nm.map .str) (qB acc1) i kk x d k c s t (is.map ND.enc) (ks.map .str)) hkey
             · have h3' := hJ3 acc1 (by rw [if_neg h6] at h1; simp only [List.length_nil] at h1; omega)
               rw [show (k == 6) = false by simpa using h6, ifB_false, if_neg h6, List.nil_append, jump_true]
               exact h3'
           rw [L_ref12_body_1_0_eq]
           simp only [List.length_map, decide_eq_true (show (i : Int) < (is.length : Int) by omega), ifB_true, jump_true]
           by_cases h0 : i = 0
           · rw [decide_eq_false (show ¬ (i : Int) > 0 by omega), ifB_false]
             rw [decide_eq_true h0] at hacc ⊢
             simp only [cma, List.length_nil, Nat.zero_add, List.nil_append] at hacc ⊢
             exact hJ5 acc hacc
           · rw [decide_eq_true (show (i : Int) > 0 by omega), ifB_true]
             rw [decide_eq_false h0] at hacc ⊢
             simp only [cma, List.length_cons, List.length_nil] at hacc ⊢
             rw [show (⟨#[44]⟩ : ByteArray) = qB [44] from rfl, qLe (by simp only [List.length_cons, List.length_nil]; omega), when_true', qBapp, ← List.append_assoc acc]
             exact hJ5 (acc ++ [44]) (by simp only [List.length_append, List.length_cons, List.length_nil]; omega)
       have hm := bodyT_items (k := k) (c := c) (s := s) (t := t) h56 (shTs nm x k true is ks)
       have hbl : (shTs nm x k true is ks).length + 2 ≤ 100000000000000 := by
         rw [hm] at hlx
         simp only [List.length_cons, List.length_append, List.length_nil] at hlx
         omega
       have l0 := items is.length 0 [] (by omega) (by rw [decide_eq_true rfl]; simp only [List.drop_zero, List.length_nil]; omega)
       rw [decide_eq_true rfl, List.drop_zero, List.drop_zero, List.nil_append, Int.natCast_zero] at l0
       have hfin : J_ref12_body_1_0 Rt0 (is.length + 1) true (nm.map .str) false x d k c s t (is.map ND.enc) (ks.map .str) = some ([.fz (.str (qB (bodyT k c s t (shTs nm x k true is ks))))], []) := by
         rw [J_ref12_body_1_0_eq, ifB_false, jump_true, J_ref12_body_8_0_eq, show (⟨#[]⟩ : ByteArray) = qB [] from rfl, l0, onL_some, X_ref12_body_1_0_eq, hm]
         rcases h56 with h5 | h6
         · rw [show (k == 6) = false by simp [h5], ifB_false, show (⟨#[91]⟩ : ByteArray) = qB [91] from rfl, show (⟨#[93]⟩ : ByteArray) = qB [93] from rfl, qLe (by simp only [List.length_cons, List.length_nil]; omega), when_true', qBapp, qLe (by simp only [List.length_append, List.length_cons, List.length_nil]; omega), when_true', qBapp, if_neg (by omega), if_neg (by omega)]
           simp only [List.cons_append, List.nil_append]
         · rw [show (k == 6) = true by simp [h6], ifB_true, show (⟨#[123]⟩ : ByteArray) = qB [123] from rfl, show (⟨#[125]⟩ : ByteArray) = qB [125] from rfl, qLe (by simp only [List.length_cons, List.length_nil]; omega), when_true', qBapp, qLe (by simp only [List.length_append, List.length_cons, List.length_nil]; omega), when_true', qBapp, if_pos h6, if_pos h6]
           simp only [List.cons_append, List.nil_append]
       rcases h56 with h5 | h6
       · rw [show (k != 5) = false by simp [h5], ifB_false, jump_true]
         exact hfin
       · rw [show (k != 5) = true by rw [h6]; rfl, ifB_true, jump_true, show (k != 6) = false by simp [h6]]
         exact hfin
     · have h04 : 0 ≤ k ∧ k ≤ 4 := by omega
       have := rtext6 (c := c) (s := s) h04 h3 ht htt (shTs nm x k true is ks)
       rw [show (k != 5) = true by rw [bne_iff_ne]; omega, ifB_true, jump_true, show (k != 6) = true by rw [bne_iff_ne]; omega, J_ref12_body_1_0_eq, ifB_true, this]
       simp only [onR_some, onL_some, List.isEmpty_nil, allF_cons, allF_nil, Bool.and_true, Bool.true_and, when_true', List.getD_cons_zero, List.getD_cons_succ, isF_fz, toF_fz, isBool_bool, toBool_bool, isInt_int, toInt_int, isStr_str, toStr_str, isSl_sl, toSl_sl, List.length_cons, List.length_nil, List.all_cons, List.all_nil, lisFz_fz, ltoFz_fz, beq_self_eq_true, jump_true, ifB_true, ifB_false, isF_pv, isPv_pv, toV_pv, isNil_nilp, isNil_pt, isPt_pt, toAg_ag, cell_ag, isAg_ag, fits_ag, Int.toNat_natCast, Bool.not_true, Bool.not_false, fits_int, fits_bool, fits_str, fits_sl]
   rw [show (k == 8) = false by simpa using h8, ifB_false, if_neg h8]
   by_cases hup : x = up
   · rw [show (x == up) = true by simp [hup], ifB_true, if_pos hup, body]
     simp only [onR_some, onL_some, List.isEmpty_nil, allF_cons, allF_nil, Bool.and_true, Bool.true_and, when_true', List.getD_cons_zero, List.getD_cons_succ, isF_fz, toF_fz, isBool_bool, toBool_bool, isInt_int, toInt_int, isStr_str, toStr_str, isSl_sl, toSl_sl, List.length_cons, List.length_nil, List.all_cons, List.all_nil, lisFz_fz, ltoFz_fz, beq_self_eq_true, jump_true, ifB_true, ifB_false, isF_pv, isPv_pv, toV_pv, isNil_nilp, isNil_pt, isPt_pt, toAg_ag, cell_ag, isAg_ag, fits_ag, Int.toNat_natCast, Bool.not_true, Bool.not_false, fits_int, fits_bool, fits_str, fits_sl]
   · obtain ⟨hx0, hx1⟩ := hx
     obtain ⟨y, rfl⟩ : ∃ y : Nat, x = y := ⟨x.toNat, by omega⟩
     have hy : y < nm.length := by omega
     have hgn : (nm.map FV.str).getD y .nilp = .str (nm.getD y ⟨#[]⟩) := by simp [hy]
     have hmem : nm.getD y ⟨#[]⟩ ∈ nm := by
       rw [List.getD_eq_getElem?_getD, List.getElem?_eq_getElem hy]
       exact List.getElem_mem hy
     have hq := rq12_ok (hn _ hmem).1 (hn _ hmem).2
     rw [if_neg hup, Int.toNat_natCast] at hlen
     simp only [List.length_append, List.length_cons, List.length_nil] at hlen
     rw [show ((y : Int) == up) = false by simpa using hup, ifB_false, if_neg hup, Int.toNat_natCast]
     simp only [List.length_map, decide_eq_true (show (y : Int) < (nm.length : Int) by omega), decide_eq_true (show (0 : Int) ≤ (y : Int) by omega), Bool.and_true, when_true', Int.toNat_natCast, hgn, fits_str, isStr_str, toStr_str, hq, onR_some, List.isEmpty_nil, allF_cons, allF_nil, List.getD_cons_zero, isF_fz, toF_fz, body, show (⟨#[123, 34, 35, 34, 58]⟩ : ByteArray) = qB [123, 34, 35, 34, 58] from rfl, show (⟨#[44, 34, 61, 34, 58]⟩ : ByteArray) = qB [44, 34, 61, 34, 58] from rfl, show (⟨#[125]⟩ : ByteArray) = qB [125] from rfl]
     rw [qLe (by simp only [List.length_cons, List.length_nil]; omega), when_true', qBapp, qLe (by simp only [List.length_append, List.length_cons, List.length_nil]; omega), when_true', qBapp, qLe (by simp only [List.length_append, List.length_cons, List.length_nil]; omega), when_true', qBapp, qLe (by simp only [List.length_append, List.length_cons, List.length_nil]; omega), when_true', qBapp]
end Go.Ab
end
section
namespace Go.Ab
structure Pol where
 names : List ByteArray
 pairs : List (Int × Int)
 ups : List (List Nat)
def Pol.g (P : Pol) : Tb := fun a b => (P.ups.getD a []).elem b
def Pol.ok (P : Pol) : Bool :=
 let n := P.names.length
 let f := layP (diag n) P.pairs
 namedB P.names && (laidB n P.pairs && ((List.range n).all (fun a => P.g a a && (List.range n).all fun b => (List.range n).all fun c => !(P.g a b && P.g b c) || P.g a c) && (P.pairs.all (fun p => P.g p.1.toNat p.2.toNat) &&
  (P.ups.length == n && ((List.range n).all (fun a => (P.ups.getD a []).all fun b => Nat.blt b n && (List.range n).any fun c => (List.range n).any fun d => f a c && (f c d && f d b)) && newC P.names P.pairs P.g == 0)))))
theorem Pol.facts {P : Pol} (h : P.ok = true) : namedB P.names = true ∧ laidB P.names.length P.pairs = true ∧ Clo P.names.length (layP (diag P.names.length) P.pairs) P.g ∧ newC P.names P.pairs P.g = 0 := by
 simp only [Pol.ok, Bool.and_eq_true, List.all_eq_true, List.any_eq_true, List.mem_range, beq_iff_eq, Nat.blt_eq] at h
 obtain ⟨h1, h2, h3, h4, h5, h6, h7⟩ := h
 refine ⟨h1, h2, ⟨fun a b x => ?_, fun a b c ha hb hc x y => ?_, fun h hl ht a b x => ?_⟩, h7⟩
 ·rcases layP_iff.1 x with x | ⟨p, hp, rfl, rfl⟩
  ·simp only [diag, Bool.and_eq_true, decide_eq_true_eq] at x
   obtain ⟨rfl, ha⟩ := x
   exact (h3 a ha).1
  ·exact h4 p hp
 ·have := (h3 a ha).2 b hb c hc
  simpa [x, y] using this
 ·have hmem : b ∈ P.ups.getD a [] := by simpa [Pol.g] using x
  have ha : a < P.names.length := by
   apply Classical.byContradiction
   intro q
   rw [List.getD_eq_getElem?_getD, List.getElem?_eq_none (by omega)] at hmem
   cases hmem
  obtain ⟨hb, c, hc, d, hd, x1, x2, x3⟩ := h6 a ha b hmem
  exact ht a d b ha hd hb (ht a c d ha hc hd (hl _ _ x1) (hl _ _ x2)) (hl _ _ x3)
def pol0 : Pol := ⟨[(⟨#[108, 111, 119]⟩ : ByteArray), (⟨#[104, 105, 103, 104]⟩ : ByteArray)], [(0, 1)], [[0, 1], [1]]⟩
theorem pol0_ok : pol0.ok = true := by decide +kernel
def pol1 : Pol := ⟨[(⟨#[108, 111, 119]⟩ : ByteArray), (⟨#[108, 101, 102, 116]⟩ : ByteArray), (⟨#[114, 105, 103, 104, 116]⟩ : ByteArray), (⟨#[104, 105, 103, 104]⟩ : ByteArray)], [(0, 1), (0, 2), (1, 3), (2, 3)], [[0, 1, 2, 3], [1, 3], [2, 3], [3]]⟩
theorem pol1_ok : pol1.ok = true := by decide +kernel
def pol2 : Pol := ⟨[(⟨#[97]⟩ : ByteArray), (⟨#[98]⟩ : ByteArray), (⟨#[99]⟩ : ByteArray)], [(0, 1), (1, 2)], [[0, 1, 2], [1, 2], [2]]⟩
theorem pol2_ok : pol2.ok = true := by decide +kernel
def pol3 : Pol := ⟨[(⟨#[111, 110, 101]⟩ : ByteArray)], [], [[0]]⟩
theorem pol3_ok : pol3.ok = true := by decide +kernel
def pol4 : Pol := ⟨[(⟨#[116, 111, 112]⟩ : ByteArray), (⟨#[120]⟩ : ByteArray), (⟨#[121]⟩ : ByteArray), (⟨#[122]⟩ : ByteArray), (⟨#[98, 111, 116]⟩ : ByteArray)], [(4, 1), (4, 2), (4, 3), (1, 0), (2, 0), (3, 0)], [[0], [1, 0], [2, 0], [3, 0], [0, 1, 2, 3, 4]]⟩
theorem pol4_ok : pol4.ok = true := by decide +kernel
def pol5 : Pol := ⟨[(⟨#[111]⟩ : ByteArray), (⟨#[112]⟩ : ByteArray), (⟨#[113]⟩ : ByteArray), (⟨#[114]⟩ : ByteArray), (⟨#[112, 113]⟩ : ByteArray), (⟨#[112, 114]⟩ : ByteArray), (⟨#[113, 114]⟩ : ByteArray), (⟨#[97, 108, 108]⟩ : ByteArray)], [(0, 1), (0, 2), (0, 3), (1, 4), (2, 4), (1, 5), (3, 5), (2, 6), (3, 6), (4, 7), (5, 7), (6, 7)], [[0, 1, 2, 3, 4, 5, 6, 7], [1, 4, 5, 7], [2, 4, 6, 7], [3, 5, 6, 7], [4, 7], [5, 7], [6, 7], [7]]⟩
theorem pol5_ok : pol5.ok = true := by decide +kernel
def Pol.e (P : Pol) : FV := polE P.names P.pairs []
theorem Pol.nice {P : Pol} (h : P.ok = true) : Nice P.names.length P.g := nice_of (Pol.facts h).2.2.1 (Pol.facts h).2.2.2
theorem Pol.new {P : Pol} (h : P.ok = true) : Rt0 N_level_New [.fz P.e] = some ([.fz (.pt 195 true (latR P.names P.g) 0), .fz (.int .i64 0)], []) := by
 obtain ⟨h1, h2, h3, h4⟩ := Pol.facts h
 obtain ⟨g, hg, hn⟩ := New_ok P.names P.pairs []
 have : g = P.g := by funext a b; exact (hg h1).uniq h3 a b
 subst this
 rw [h4] at hn
 exact hn
theorem Pol.table {P : Pol} (h : P.ok = true) : Rt0 N_ref01_Table [.fz P.e] = some ([.fz (.sl (tabL P.names.length (rowOf P.names.length P.pairs) P.names.length))], []) := Table_ok [] (Pol.nice h).n8 (Pol.facts h).2.1
theorem Pol.lat {P : Pol} (h : P.ok = true) : IsLat (latR P.names P.g) (ltR P.names.length P.g) := latR_is (Pol.nice h)
theorem Pol.tab {P : Pol} (h : P.ok = true) : IsTab (tabL P.names.length (rowOf P.names.length P.pairs) P.names.length) (ltR P.names.length P.g) := by
 obtain ⟨h1, h2, h3, h4⟩ := Pol.facts h
 simp only [laidB, Bool.and_eq_true] at h2
 exact tab_is h2.2 h3
end Go.Ab
end
section
namespace Go.Ab
open Go.Proofs
theorem lat_Text {names : List ByteArray} {g : Tb} (N : Nice names.length g) (a : Int) : Rt0 N_level_Lattice_Text [.fz (.pt 195 true (latR names g) 0), .fz (.int .i64 a)] = some ([.fz (.str (if 0 ≤ a ∧ a < names.length then names.getD a.toNat ByteArray.empty else ByteArray.empty))], []) := by
 have I := latR_is N
 refine rt_call0 A_level_Lattice_Text rfl rfl 0 ?_
 have hi := lat_Is I a
 rw [E_level_Lattice_Text, hi]
 have h0 : FV.cell (latR names g) 0 = .sl (strs names) := latE_0 ..
 by_cases h : 0 ≤ a ∧ a < names.length
 ·have e : (ltR names.length g).is a = true := Lt.is_iff.2 h
  have hd : (decide (0 ≤ a) && decide (a < (names.length : Int))) = true := by simp; exact h
  rw [if_pos h]
  simp only [e, onR_some, onL_some, List.isEmpty_nil, allF_cons, allF_nil, Bool.and_true, Bool.true_and, when_true', List.getD_cons_zero, List.getD_cons_succ, isF_fz, toF_fz, isBool_bool, toBool_bool, isInt_int, toInt_int, isStr_str, toStr_str, isSl_sl, toSl_sl, List.length_cons, List.length_nil, List.all_cons, List.all_nil, lisFz_fz, ltoFz_fz, beq_self_eq_true, jump_true, ifB_true, ifB_false, isF_pv, isPv_pv, toV_pv, isNil_nilp, isNil_pt, isPt_pt, toAg_ag, cell_ag, isAg_ag, fits_ag, Int.toNat_natCast, Bool.not_true, Bool.not_false, fits_int, fits_bool, fits_str, fits_sl, I.ag, h0, strs_len, hd, strs_get (show a.toNat < names.length by omega)]
 ·have e : (ltR names.length g).is a = false := by
   cases q : (ltR names.length g).is a with
   | false => rfl
   | true => exact absurd (Lt.is_iff.1 q) h
  rw [if_neg h]
  simp only [e, onR_some, onL_some, List.isEmpty_nil, allF_cons, allF_nil, Bool.and_true, Bool.true_and, when_true', List.getD_cons_zero, List.getD_cons_succ, isF_fz, toF_fz, isBool_bool, toBool_bool, isInt_int, toInt_int, isStr_str, toStr_str, isSl_sl, toSl_sl, List.length_cons, List.length_nil, List.all_cons, List.all_nil, lisFz_fz, ltoFz_fz, beq_self_eq_true, jump_true, ifB_true, ifB_false, isF_pv, isPv_pv, toV_pv, isNil_nilp, isNil_pt, isPt_pt, toAg_ag, cell_ag, isAg_ag, fits_ag, Int.toNat_natCast, Bool.not_true, Bool.not_false, fits_int, fits_bool, fits_str, fits_sl]
  rfl
end Go.Ab
end
