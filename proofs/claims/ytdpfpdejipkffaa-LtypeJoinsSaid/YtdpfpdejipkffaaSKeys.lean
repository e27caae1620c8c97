/- The keys that one of two types has: the program's, the reference's. -/
import Derived.Test.YtdpfpdejipkffaaSTy6
namespace Go.Ab
open Go.Proofs Go.RowKit Go.Sort
set_option linter.unusedVariables false
set_option linter.unusedSimpArgs false
set_option linter.unusedSectionVars false
/-- Two rising rows with the same members are the same. -/
theorem rise_ext : ∀ {a b : List ByteArray}, a.Pairwise BLt → b.Pairwise BLt → (∀ x, x ∈ a ↔ x ∈ b) → a = b
  | [], [], _, _, _ => rfl
  | [], y :: b, _, _, h => absurd ((h y).2 (List.mem_cons_self ..)) (by simp)
  | x :: a, [], _, _, h => absurd ((h x).1 (List.mem_cons_self ..)) (by simp)
  | x :: a, y :: b, ha, hb, h => by
    have ha' := List.pairwise_cons.1 ha
    have hb' := List.pairwise_cons.1 hb
    have hxy : x = y := by
      rcases List.mem_cons.1 ((h x).1 (List.mem_cons_self ..)) with e | e
      · exact e
      · rcases List.mem_cons.1 ((h y).2 (List.mem_cons_self ..)) with e' | e'
        · exact e'.symm
        · exact absurd (hb'.1 x e) (ha'.1 y e').asymm
    subst hxy
    congr 1
    refine rise_ext ha'.2 hb'.2 fun z => ⟨fun hz => ?_, fun hz => ?_⟩
    · rcases List.mem_cons.1 ((h z).1 (List.mem_cons_of_mem _ hz)) with e | e
      · subst e; exact absurd (ha'.1 z hz) (BLt.irrefl z)
      · exact e
    · rcases List.mem_cons.1 ((h z).2 (List.mem_cons_of_mem _ hz)) with e | e
      · subst e; exact absurd (hb'.1 z hz) (BLt.irrefl z)
      · exact e
theorem cu_spec {zs : List (List UInt8)} (h : zs.Pairwise (· ≤ ·)) : ∀ m, m ≤ zs.length → (Lib.compactUpTo zs.toArray m).Pairwise (· < ·) ∧ ∀ x, x ∈ Lib.compactUpTo zs.toArray m ↔ x ∈ zs.take m
  | 0, _ => by simp [Lib.compactUpTo]
  | m + 1, hm => by
    obtain ⟨h1, h2⟩ := cu_spec h m (by omega)
    have hl : m < zs.length := by omega
    have e1 : zs.toArray[m]! = zs[m] := by simp [getElem!_pos, hl]
    rw [Lib.compactUpTo_succ, take_snoc hl, e1]
    have hp := List.pairwise_iff_getElem.1 h
    by_cases hk : m = 0 ∨ zs.toArray[m]! ≠ zs.toArray[m - 1]!
    · rw [if_pos (show Lib.keeps zs.toArray m = true by unfold Lib.keeps; exact decide_eq_true hk)]
      refine ⟨List.pairwise_append.2 ⟨h1, by simp, fun x hx y hy => ?_⟩, fun x => by rw [List.mem_append, List.mem_append, h2]⟩
      have hy : y = zs[m] := by simpa using hy
      subst hy
      have hx := (h2 x).1 hx
      obtain ⟨i, hi, rfl⟩ := List.mem_iff_getElem.1 hx
      have hi' : i < m := by simp at hi; omega
      rw [List.getElem_take]
      rcases hk with hk | hk
      · omega
      have hl1 : m - 1 < zs.length := by omega
      have e2 : zs.toArray[m - 1]! = zs[m - 1] := by simp [getElem!_pos, hl1]
      rw [e1, e2] at hk
      have g1 : zs[m - 1] < zs[m] := by
        by_cases q : zs[m - 1] < zs[m]
        · exact q
        · exact absurd (List.le_antisymm (List.not_lt.1 q) (hp (m - 1) m hl1 hl (by omega))) hk
      by_cases hi2 : i = m - 1
      · subst hi2; exact g1
      · exact List.lt_of_le_of_lt (hp i (m - 1) (by omega) hl1 (by omega)) g1
    · have hkk := not_or.1 hk
      rw [if_neg (show ¬ Lib.keeps zs.toArray m = true by unfold Lib.keeps; simpa using hk), List.append_nil]
      refine ⟨h1, fun x => ?_⟩
      have hl1 : m - 1 < zs.length := by omega
      have e2 : zs.toArray[m - 1]! = zs[m - 1] := by simp [getElem!_pos, hl1]
      have hq : zs[m] = zs[m - 1] := by
        have := hkk.2
        rw [e1, e2] at this
        exact Decidable.not_not.1 this
      rw [h2, List.mem_append, List.mem_singleton, hq]
      refine ⟨.inl, fun hh => hh.elim id fun e => ?_⟩
      subst e
      exact List.mem_take_iff_getElem.2 ⟨m - 1, by omega, rfl⟩
theorem compact_spec {zs : List (List UInt8)} (h : zs.Pairwise (· ≤ ·)) : (Lib.compact zs).Pairwise (· < ·) ∧ ∀ x, x ∈ Lib.compact zs ↔ x ∈ zs := by
  have := cu_spec h zs.length (Nat.le_refl _)
  rw [List.take_length] at this
  exact this
theorem sorted_le (l : List (List UInt8)) : (l.mergeSort fun x y => decide (x ≤ y)).Pairwise (· ≤ ·) := by
  have := List.pairwise_mergeSort (le := fun x y : List UInt8 => decide (x ≤ y)) (fun a b c h1 h2 => by
    simp only [decide_eq_true_eq] at *; exact List.le_trans h1 h2) (fun a b => by
    simp only [Bool.or_eq_true, decide_eq_true_eq]; exact List.le_total a b) l
  exact this.imp fun h => of_decide_eq_true h
theorem keysB_spec (a b : List ByteArray) : (keysB a b).Pairwise BLt ∧ ∀ x, x ∈ keysB a b ↔ x ∈ a ∨ x ∈ b := by
  obtain ⟨h1, h2⟩ := compact_spec (sorted_le ((a ++ b).map fun s => s.data.toList))
  unfold keysB
  refine ⟨List.pairwise_map.2 (h1.imp fun {x y} h => ?_), fun x => ?_⟩
  · show ByteArray.toList _ < ByteArray.toList _
    rw [ByteArray.toList_eq, ByteArray.toList_eq]
    exact h
  · rw [List.mem_map]
    constructor
    · rintro ⟨l, hl, rfl⟩
      rw [h2, List.mem_mergeSort, List.mem_map] at hl
      obtain ⟨s, hs, rfl⟩ := hl
      rw [Array.toArray_toList]
      exact List.mem_append.1 hs
    · intro h
      refine ⟨x.data.toList, ?_, by rw [Array.toArray_toList]⟩
      rw [h2, List.mem_mergeSort, List.mem_map]
      exact ⟨x, List.mem_append.2 h, rfl⟩
/-- Two rising rows laid into one. -/
def mrg : List ByteArray → List ByteArray → List ByteArray
  | [], ys => ys
  | x :: xs, [] => x :: xs
  | x :: xs, y :: ys => if Op.bytesLess x.toList y.toList = true then x :: mrg xs (y :: ys) else if x = y then y :: mrg xs ys else y :: mrg (x :: xs) ys
termination_by xs ys => xs.length + ys.length
theorem mrg_nil (ys : List ByteArray) : mrg [] ys = ys := by rw [mrg]
theorem mrg_nilR (xs : List ByteArray) : mrg xs [] = xs := by cases xs <;> rw [mrg]
theorem mrg_mem : ∀ (xs ys : List ByteArray) (z : ByteArray), z ∈ mrg xs ys ↔ z ∈ xs ∨ z ∈ ys
  | [], ys, z => by rw [mrg_nil]; simp
  | x :: xs, [], z => by rw [mrg_nilR]; simp
  | x :: xs, y :: ys, z => by
    rw [mrg]
    split
    · have := mrg_mem xs (y :: ys) z
      simp only [List.mem_cons, this, or_assoc]
    · split
      · rename_i e
        subst e
        rw [List.mem_cons, mrg_mem xs ys z, List.mem_cons, List.mem_cons]
        constructor
        · rintro (h | h | h)
          · exact .inl (.inl h)
          · exact .inl (.inr h)
          · exact .inr (.inr h)
        · rintro ((h | h) | h | h)
          · exact .inl h
          · exact .inr (.inl h)
          · exact .inl h
          · exact .inr (.inr h)
      · rw [List.mem_cons, mrg_mem (x :: xs) ys z, List.mem_cons (b := y)]
        constructor
        · rintro (h | h | h)
          · exact .inr (.inl h)
          · exact .inl h
          · exact .inr (.inr h)
        · rintro (h | h | h)
          · exact .inr (.inl h)
          · exact .inl h
          · exact .inr (.inr h)
termination_by xs ys => xs.length + ys.length
theorem mrg_rise : ∀ (xs ys : List ByteArray), xs.Pairwise BLt → ys.Pairwise BLt → (mrg xs ys).Pairwise BLt
  | [], ys, _, h => by rw [mrg_nil]; exact h
  | x :: xs, [], h, _ => by rw [mrg_nilR]; exact h
  | x :: xs, y :: ys, h1, h2 => by
    have h1' := List.pairwise_cons.1 h1
    have h2' := List.pairwise_cons.1 h2
    rw [mrg]
    split
    · rename_i hb
      have hb := bltO_iff.1 hb
      refine List.pairwise_cons.2 ⟨fun z hz => ?_, mrg_rise xs (y :: ys) h1'.2 h2⟩
      rcases (mrg_mem ..).1 hz with hz | hz
      · exact h1'.1 z hz
      · rcases List.mem_cons.1 hz with rfl | hz
        · exact hb
        · exact hb.trans (h2'.1 z hz)
    · rename_i hb
      have hb := bltO_false.1 (by simpa using hb)
      split
      · rename_i e
        subst e
        refine List.pairwise_cons.2 ⟨fun z hz => ?_, mrg_rise xs ys h1'.2 h2'.2⟩
        rcases (mrg_mem ..).1 hz with hz | hz
        · exact h1'.1 z hz
        · exact h2'.1 z hz
      · rename_i e
        have hyx : BLt y x := by
          rcases BLt.tri x y with q | q | q
          · exact absurd q hb
          · exact absurd q e
          · exact q
        refine List.pairwise_cons.2 ⟨fun z hz => ?_, mrg_rise (x :: xs) ys h1 h2'.2⟩
        rcases (mrg_mem ..).1 hz with hz | hz
        · rcases List.mem_cons.1 hz with rfl | hz
          · exact hyx
          · exact hyx.trans (h1'.1 z hz)
        · exact h2'.1 z hz
termination_by xs ys => xs.length + ys.length
theorem mrg_len : ∀ (xs ys : List ByteArray), (mrg xs ys).length ≤ xs.length + ys.length
  | [], ys => by rw [mrg_nil]; simp
  | x :: xs, [] => by rw [mrg_nilR]; simp
  | x :: xs, y :: ys => by
    rw [mrg]
    split
    · have := mrg_len xs (y :: ys)
      simp only [List.length_cons] at this ⊢; omega
    · split
      · have := mrg_len xs ys
        simp only [List.length_cons] at this ⊢; omega
      · have := mrg_len (x :: xs) ys
        simp only [List.length_cons] at this ⊢; omega
termination_by xs ys => xs.length + ys.length
theorem keysB_mrg {xs ys : List ByteArray} (h1 : xs.Pairwise BLt) (h2 : ys.Pairwise BLt) : keysB xs ys = mrg xs ys :=
  rise_ext (keysB_spec xs ys).1 (mrg_rise xs ys h1 h2) fun z => by rw [(keysB_spec xs ys).2, mrg_mem]
theorem map_toStr (l : List ByteArray) : (l.map FV.str).map FV.toStr = l := by
  rw [List.map_map]; exact (List.map_congr_left fun _ _ => rfl).trans (List.map_id l)
theorem all_isStr (l : List ByteArray) : (l.map FV.str).all FV.isStr = true := by
  refine List.all_eq_true.2 fun x hx => ?_
  obtain ⟨s, _, rfl⟩ := List.mem_map.1 hx; rfl
theorem keysP_ok (a r a' r' : Int) (us us' : List FV) {xs ys : List ByteArray} (h1 : xs.Pairwise BLt) (h2 : ys.Pairwise BLt) (hx : xs.length ≤ 134217728) (hy : ys.length ≤ 134217728) :
    Rt N_ltype_keys [.fz (.ag [.int .i64 a, .sl (xs.map .str), .sl us, .int .i64 r]), .fz (.ag [.int .i64 a', .sl (ys.map .str), .sl us', .int .i64 r'])] = some ([.fz (.sl ((mrg xs ys).map .str))], []) := by
  refine rt_prim (af := A_keys) (p := keysP) rfl rfl ?_
  show when ((xs.map FV.str).all FV.isStr && (ys.map FV.str).all FV.isStr && Nat.ble ((xs.map FV.str).length + (ys.map FV.str).length) 8796093022208) (some ([TV.fz (.sl ((keysB ((xs.map FV.str).map FV.toStr) ((ys.map FV.str).map FV.toStr)).map .str))], [])) = _
  rw [all_isStr, all_isStr, map_toStr, map_toStr, keysB_mrg h1 h2, List.length_map, List.length_map, Nat.ble_eq_true_of_le (by omega)]
  rfl
theorem keys9_ok (a r a' r' : Int) (us us' : List FV) {xs ys : List ByteArray} (hx : xs.length ≤ 134217728) (hy : ys.length ≤ 134217728) :
    Rt N_ref25_Keys [.fz (.ag [.int .i64 a, .sl (xs.map .str), .sl us, .int .i64 r]), .fz (.ag [.int .i64 a', .sl (ys.map .str), .sl us', .int .i64 r'])] = some ([.fz (.sl ((mrg xs ys).map .str))], []) := by
  have hroom : roomy = 140737488355328 := rfl
  have loop : ∀ (n i j : Nat) (acc : List ByteArray), (xs.length - i) + (ys.length - j) < n → i ≤ xs.length → j ≤ ys.length → acc.length ≤ i + j →
      onL (L_ref25_Keys_1_1 Rt (xs.length + ys.length + 1) true n i j a (xs.map .str) us r a' (ys.map .str) us' r' (acc.map .str)) (K_ref25_Keys_1 Rt (xs.length + ys.length + 1) true) = some ([.fz (.sl ((acc ++ mrg (xs.drop i) (ys.drop j)).map .str))], []) := by
    intro n
    induction n with
    | zero => intro i j acc h; omega
    | succ n ih =>
      intro i j acc hn hi hj hacc
      have hwi : IntKind.wrap .i64 ((i : Int) + 1) = ((i + 1 : Nat) : Int) := by rw [wrap64 (by omega) (by omega)]; simp
      have hwj : IntKind.wrap .i64 ((j : Int) + 1) = ((j + 1 : Nat) : Int) := by rw [wrap64 (by omega) (by omega)]; simp
      have hro : ∀ s : ByteArray, (decide (((acc.map FV.str).length + [FV.str s].length) * 16 ≤ roomy) && decide ((acc.map FV.str).length + [FV.str s].length ≤ roomy)) = true := fun s => by simp; omega
      have hsn : ∀ s : ByteArray, acc.map FV.str ++ [.str s] = (acc ++ [s]).map .str := fun s => by simp
      have d0i : decide ((0 : Int) ≤ (i : Int)) = true := decide_eq_true (by omega)
      have d0j : decide ((0 : Int) ≤ (j : Int)) = true := decide_eq_true (by omega)
      rw [L_ref25_Keys_1_1_eq]
      by_cases hjl : j < ys.length
      · have dj : decide ((j : Int) < (ys.length : Int)) = true := decide_eq_true (by omega)
        have djg : decide ((j : Int) ≥ (ys.length : Int)) = false := decide_eq_false (by omega)
        have gy := getD_str' ys hjl
        have hroy := hro ys[j]
        by_cases hil : i < xs.length
        · have di : decide ((i : Int) < (xs.length : Int)) = true := decide_eq_true (by omega)
          have gx := getD_str' xs hil
          have hrox := hro xs[i]
          rw [drop_cons hil, drop_cons hjl, mrg]
          cases hb : Op.bytesLess xs[i].toList ys[j].toList with
          | true =>
            rw [if_pos rfl, ← drop_cons hjl, List.append_cons, ← ih (i + 1) j (acc ++ [xs[i]]) (by omega) (by omega) hj (by simp; omega)]
            simp only [List.length_map, di, dj, djg, d0i, d0j, J_ref25_Keys_3_1_eq, J_ref25_Keys_2_1_eq, J_ref25_Keys_1_1_eq, ifB_true, ifB_false, jump_true, Bool.and_true, when_true', Int.toNat_natCast, gx, gy, fits_str, isStr_str, toStr_str, hb, hwi, hsn] at hrox ⊢
            simp only [hrox, when_true']
          | false =>
            rw [if_neg (by simp)]
            by_cases he : xs[i] = ys[j]
            · rw [if_pos he, List.append_cons, ← ih (i + 1) (j + 1) (acc ++ [ys[j]]) (by omega) (by omega) (by omega) (by simp; omega)]
              have heq : (xs[i].toList == ys[j].toList) = true := by rw [eq_beqO]; exact decide_eq_true he
              simp only [List.length_map, di, dj, djg, d0i, d0j, J_ref25_Keys_3_1_eq, J_ref25_Keys_2_1_eq, J_ref25_Keys_1_1_eq, ifB_true, ifB_false, jump_true, Bool.and_true, when_true', Int.toNat_natCast, gx, gy, fits_str, isStr_str, toStr_str, hb, heq, hwi, hwj, hsn] at hroy ⊢
              simp only [hroy, when_true']
            · rw [if_neg he, ← drop_cons hil, List.append_cons, ← ih i (j + 1) (acc ++ [ys[j]]) (by omega) (by omega) (by omega) (by simp; omega)]
              have heq : (xs[i].toList == ys[j].toList) = false := by rw [eq_beqO]; exact decide_eq_false he
              simp only [List.length_map, di, dj, djg, d0i, d0j, J_ref25_Keys_3_1_eq, J_ref25_Keys_2_1_eq, J_ref25_Keys_1_1_eq, ifB_true, ifB_false, jump_true, Bool.and_true, when_true', Int.toNat_natCast, gx, gy, fits_str, isStr_str, toStr_str, hb, heq, hwi, hwj, hsn] at hroy ⊢
              simp only [hroy, when_true']
        · have di : decide ((i : Int) < (xs.length : Int)) = false := decide_eq_false (by omega)
          have h2 := ih i (j + 1) (acc ++ [ys[j]]) (by omega) (by omega) (by omega) (by simp; omega)
          rw [List.drop_eq_nil_of_le (show xs.length ≤ i by omega), mrg_nil] at h2 ⊢
          rw [drop_cons hjl, List.append_cons, ← h2]
          simp only [List.length_map, di, dj, djg, d0i, d0j, J_ref25_Keys_3_1_eq, J_ref25_Keys_2_1_eq, J_ref25_Keys_1_1_eq, ifB_true, ifB_false, jump_true, Bool.and_true, when_true', Int.toNat_natCast, gy, fits_str, isStr_str, toStr_str, hwi, hwj, hsn] at hroy ⊢
          simp only [hroy, when_true']
      · have dj : decide ((j : Int) < (ys.length : Int)) = false := decide_eq_false (by omega)
        have djg : decide ((j : Int) ≥ (ys.length : Int)) = true := decide_eq_true (by omega)
        by_cases hil : i < xs.length
        · have di : decide ((i : Int) < (xs.length : Int)) = true := decide_eq_true (by omega)
          have gx := getD_str' xs hil
          have hrox := hro xs[i]
          have h2 := ih (i + 1) j (acc ++ [xs[i]]) (by omega) (by omega) (by omega) (by simp; omega)
          rw [List.drop_eq_nil_of_le (show ys.length ≤ j by omega), mrg_nilR] at h2 ⊢
          rw [drop_cons hil, List.append_cons, ← h2]
          simp only [List.length_map, di, dj, djg, d0i, d0j, J_ref25_Keys_3_1_eq, J_ref25_Keys_2_1_eq, J_ref25_Keys_1_1_eq, ifB_true, ifB_false, jump_true, Bool.and_true, when_true', Int.toNat_natCast, gx, fits_str, isStr_str, toStr_str, hwi, hwj, hsn] at hrox ⊢
          simp only [hrox, when_true']
        · have di : decide ((i : Int) < (xs.length : Int)) = false := decide_eq_false (by omega)
          rw [List.drop_eq_nil_of_le (show ys.length ≤ j by omega), mrg_nilR, List.drop_eq_nil_of_le (show xs.length ≤ i by omega), List.append_nil]
          simp only [List.length_map, di, dj, ifB_false, onL_some, X_ref25_Keys_1_1_eq]
  refine rt_call A_ref25_Keys rfl rfl (xs.length + ys.length + 1) ?_
  rw [E_ref25_Keys, L_ref25_Keys_1_0_eq]
  have w0 : IntKind.wrap .i64 ((0 : Int) + 1) = ((1 : Nat) : Int) := by rw [wrap64 (by omega) (by omega)]; rfl
  have c0 : (0 : Int) = ((0 : Nat) : Int) := rfl
  have d0 : decide ((0 : Int) ≤ 0) = true := by decide
  have t0 : (0 : Int).toNat = 0 := rfl
  have hro : ∀ s : ByteArray, (decide (((0 : Nat) + [FV.str s].length) * 16 ≤ roomy) && decide ((0 : Nat) + [FV.str s].length ≤ roomy)) = true := fun s => rfl
  have hsn : ∀ s : ByteArray, [FV.str s] = [s].map .str := fun s => rfl
  by_cases hjl : 0 < ys.length
  · have dj : decide ((0 : Int) < (ys.length : Int)) = true := decide_eq_true (by omega)
    have djg : decide ((0 : Int) ≥ (ys.length : Int)) = false := decide_eq_false (by omega)
    have gy := getD_str' ys hjl
    have hroy := hro ys[0]
    have ey : ys = ys[0] :: ys.drop 1 := by rw [← drop_cons hjl, List.drop_zero]
    by_cases hil : 0 < xs.length
    · have di : decide ((0 : Int) < (xs.length : Int)) = true := decide_eq_true (by omega)
      have gx := getD_str' xs hil
      have hrox := hro xs[0]
      have ex : xs = xs[0] :: xs.drop 1 := by rw [← drop_cons hil, List.drop_zero]
      have em : mrg xs ys = mrg (xs[0] :: xs.drop 1) (ys[0] :: ys.drop 1) := by rw [← ex, ← ey]
      rw [em, mrg, ← ex, ← ey]
      cases hb : Op.bytesLess xs[0].toList ys[0].toList with
      | true =>
        have h2 := loop (xs.length + ys.length) 1 0 [xs[0]] (by omega) (by omega) (by omega) (by simp)
        rw [List.drop_zero, List.singleton_append] at h2
        rw [if_pos rfl, ← h2]
        simp only [List.length_map, di, dj, djg, d0, J_ref25_Keys_3_0_eq, J_ref25_Keys_2_0_eq, J_ref25_Keys_1_0_eq, ifB_true, ifB_false, jump_true, Bool.and_true, when_true', t0, gx, gy, fits_str, isStr_str, toStr_str, hb, w0, hsn, Int.natCast_zero] at hrox ⊢
        simp only [hrox, when_true']
      | false =>
        rw [if_neg (by simp)]
        by_cases he : xs[0] = ys[0]
        · have h2 := loop (xs.length + ys.length) 1 1 [ys[0]] (by omega) (by omega) (by omega) (by simp)
          rw [List.singleton_append] at h2
          rw [if_pos he, ← h2]
          have heq : (xs[0].toList == ys[0].toList) = true := by rw [eq_beqO]; exact decide_eq_true he
          simp only [List.length_map, di, dj, djg, d0, J_ref25_Keys_3_0_eq, J_ref25_Keys_2_0_eq, J_ref25_Keys_1_0_eq, ifB_true, ifB_false, jump_true, Bool.and_true, when_true', t0, gx, gy, fits_str, isStr_str, toStr_str, hb, heq, w0, hsn] at hroy ⊢
          simp only [hroy, when_true']
        · have h2 := loop (xs.length + ys.length) 0 1 [ys[0]] (by omega) (by omega) (by omega) (by simp)
          rw [List.drop_zero, List.singleton_append] at h2
          rw [if_neg he, ← h2]
          have heq : (xs[0].toList == ys[0].toList) = false := by rw [eq_beqO]; exact decide_eq_false he
          simp only [List.length_map, di, dj, djg, d0, J_ref25_Keys_3_0_eq, J_ref25_Keys_2_0_eq, J_ref25_Keys_1_0_eq, ifB_true, ifB_false, jump_true, Bool.and_true, when_true', t0, gx, gy, fits_str, isStr_str, toStr_str, hb, heq, w0, hsn, Int.natCast_zero] at hroy ⊢
          simp only [hroy, when_true']
    · have di : decide ((0 : Int) < (xs.length : Int)) = false := decide_eq_false (by omega)
      have h2 := loop (xs.length + ys.length) 0 1 [ys[0]] (by omega) (by omega) (by omega) (by simp)
      have hx0 : xs = [] := List.eq_nil_of_length_eq_zero (by omega)
      rw [List.drop_eq_nil_of_le (show xs.length ≤ 0 by omega), mrg_nil, List.singleton_append, ← ey] at h2
      have em : mrg xs ys = ys := by rw [hx0, mrg_nil]
      rw [em, ← h2]
      simp only [List.length_map, di, dj, djg, d0, J_ref25_Keys_3_0_eq, J_ref25_Keys_2_0_eq, J_ref25_Keys_1_0_eq, ifB_true, ifB_false, jump_true, Bool.and_true, when_true', t0, gy, fits_str, isStr_str, toStr_str, w0, hsn, Int.natCast_zero] at hroy ⊢
      simp only [hroy, when_true']
  · have dj : decide ((0 : Int) < (ys.length : Int)) = false := decide_eq_false (by omega)
    have djg : decide ((0 : Int) ≥ (ys.length : Int)) = true := decide_eq_true (by omega)
    have hy0 : ys = [] := List.eq_nil_of_length_eq_zero (by omega)
    by_cases hil : 0 < xs.length
    · have di : decide ((0 : Int) < (xs.length : Int)) = true := decide_eq_true (by omega)
      have gx := getD_str' xs hil
      have hrox := hro xs[0]
      have ex : xs = xs[0] :: xs.drop 1 := by rw [← drop_cons hil, List.drop_zero]
      have h2 := loop (xs.length + ys.length) 1 0 [xs[0]] (by omega) (by omega) (by omega) (by simp)
      rw [List.drop_eq_nil_of_le (show ys.length ≤ 0 by omega), mrg_nilR, List.singleton_append, ← ex] at h2
      have em : mrg xs ys = xs := by rw [hy0, mrg_nilR]
      rw [em, ← h2]
      simp only [List.length_map, di, dj, djg, d0, J_ref25_Keys_3_0_eq, J_ref25_Keys_2_0_eq, J_ref25_Keys_1_0_eq, ifB_true, ifB_false, jump_true, Bool.and_true, when_true', t0, gx, fits_str, isStr_str, toStr_str, w0, hsn, Int.natCast_zero] at hrox ⊢
      simp only [hrox, when_true']
    · have di : decide ((0 : Int) < (xs.length : Int)) = false := decide_eq_false (by omega)
      have hx0 : xs = [] := List.eq_nil_of_length_eq_zero (by omega)
      have em : mrg xs ys = [] := by rw [hx0, hy0, mrg_nil]
      rw [em]
      simp only [List.length_map, List.map_nil, di, dj, ifB_false, onL_some, X_ref25_Keys_1_0_eq]
end Go.Ab
