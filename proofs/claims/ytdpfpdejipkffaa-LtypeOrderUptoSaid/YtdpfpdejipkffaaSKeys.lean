/- The keys that one of two types has: the program's, the reference's. -/
import Derived.Test.YtdpfpdejipkffaaSTy6
namespace Go.Ab
open Go.Proofs Go.RowKit Go.Sort
set_option linter.unusedVariables false
set_option linter.unusedSimpArgs false
set_option linter.unusedSectionVars false
/-- Two rising rows with the same members are the same. -/
theorem rise_ext : ∀ {a b : List ByteArray}, a.Pairwise BLt → b.Pairwise BLt → (∀ x, x ∈ a ↔ x ∈ b) → a = b
  | [], [], _, _, _ => rfl
  | [], y :: b, _, _, h => absurd ((h y).2 (List.mem_cons_self ..)) (by simp)
  | x :: a, [], _, _, h => absurd ((h x).1 (List.mem_cons_self ..)) (by simp)
  | x :: a, y :: b, ha, hb, h => by
    have ha' := List.pairwise_cons.1 ha
    have hb' := List.pairwise_cons.1 hb
    have hxy : x = y := by
      rcases List.mem_cons.1 ((h x).1 (List.mem_cons_self ..)) with e | e
      · exact e
      · rcases List.mem_cons.1 ((h y).2 (List.mem_cons_self ..)) with e' | e'
        · exact e'.symm
        · exact absurd (hb'.1 x e) (ha'.1 y e').asymm
    subst hxy
    congr 1
    refine rise_ext ha'.2 hb'.2 fun z => ⟨fun hz => ?_, fun hz => ?_⟩
    · rcases List.mem_cons.1 ((h z).1 (List.mem_cons_of_mem _ hz)) with e | e
      · subst e; exact absurd (ha'.1 z hz) (BLt.irrefl z)
      · exact e
    · rcases List.mem_cons.1 ((h z).2 (List.mem_cons_of_mem _ hz)) with e | e
      · subst e; exact absurd (hb'.1 z hz) (BLt.irrefl z)
      · exact e
theorem cu_spec {zs : List (List UInt8)} (h : zs.Pairwise (· ≤ ·)) : ∀ m, m ≤ zs.length → (Lib.compactUpTo zs.toArray m).Pairwise (· < ·) ∧ ∀ x, x ∈ Lib.compactUpTo zs.toArray m ↔ x ∈ zs.take m
  | 0, _ => by simp [Lib.compactUpTo]
  | m + 1, hm => by
    obtain ⟨h1, h2⟩ := cu_spec h m (by omega)
    have hl : m < zs.length := by omega
    have e1 : zs.toArray[m]! = zs[m] := by simp [getElem!_pos, hl]
    rw [Lib.compactUpTo_succ, take_snoc hl, e1]
    have hp := List.pairwise_iff_getElem.1 h
    by_cases hk : m = 0 ∨ zs.toArray[m]! ≠ zs.toArray[m - 1]!
    · rw [if_pos (show Lib.keeps zs.toArray m = true by unfold Lib.keeps; exact decide_eq_true hk)]
      refine ⟨List.pairwise_append.2 ⟨h1, by simp, fun x hx y hy => ?_⟩, fun x => by rw [List.mem_append, List.mem_append, h2]⟩
      have hy : y = zs[m] := by simpa using hy
      subst hy
      have hx := (h2 x).1 hx
      obtain ⟨i, hi, rfl⟩ := List.mem_iff_getElem.1 hx
      have hi' : i < m := by simp at hi; omega
      rw [List.getElem_take]
      rcases hk with hk | hk
      · omega
      have hl1 : m - 1 < zs.length := by omega
      have e2 : zs.toArray[m - 1]! = zs[m - 1] := by simp [getElem!_pos, hl1]
      rw [e1, e2] at hk
      have g1 : zs[m - 1] < zs[m] := by
        by_cases q : zs[m - 1] < zs[m]
        · exact q
        · exact absurd (List.le_antisymm (List.not_lt.1 q) (hp (m - 1) m hl1 hl (by omega))) hk
      by_cases hi2 : i = m - 1
      · subst hi2; exact g1
      · exact List.lt_of_le_of_lt (hp i (m - 1) (by omega) hl1 (by omega)) g1
    · have hkk := not_or.1 hk
      rw [if_neg (show ¬ Lib.keeps zs.toArray m = true by unfold Lib.keeps; simpa using hk), List.append_nil]
      refine ⟨h1, fun x => ?_⟩
      have hl1 : m - 1 < zs.length := by omega
      have e2 : zs.toArray[m - 1]! = zs[m - 1] := by simp [getElem!_pos, hl1]
      have hq : zs[m] = zs[m - 1] := by
        have := hkk.2
        rw [e1, e2] at this
        exact Decidable.not_not.1 this
      rw [h2, List.mem_append, List.mem_singleton, hq]
      refine ⟨.inl, fun hh => hh.elim id fun e => ?_⟩
      subst e
      exact List.mem_take_iff_getElem.2 ⟨m - 1, by omega, rfl⟩
theorem compact_spec {zs : List (List UInt8)} (h : zs.Pairwise (· ≤ ·)) : (Lib.compact zs).Pairwise (· < ·) ∧ ∀ x, x ∈ Lib.compact zs ↔ x ∈ zs := by
  have := cu_spec h zs.length (Nat.le_refl _)
  rw [List.take_length] at this
  exact this
theorem sorted_le (l : List (List UInt8)) : (l.mergeSort fun x y => decide (x ≤ y)).Pairwise (· ≤ ·) := by
  have := List.pairwise_mergeSort (le := fun x y : List UInt8 => decide (x ≤ y)) (fun a b c h1 h2 => by
    simp only [decide_eq_true_eq] at *; exact List.le_trans h1 h2) (fun a b => by
    simp only [Bool.or_eq_true, decide_eq_true_eq]; exact List.le_total a b) l
  exact this.imp fun h => of_decide_eq_true h
theorem keysB_spec (a b : List ByteArray) : (keysB a b).Pairwise BLt ∧ ∀ x, x ∈ keysB a b ↔ x ∈ a ∨ x ∈ b := by
  obtain ⟨h1, h2⟩ := compact_spec (sorted_le ((a ++ b).map fun s => s.data.toList))
  unfold keysB
  refine ⟨List.pairwise_map.2 (h1.imp fun {x y} h => ?_), fun x => ?_⟩
  · show ByteArray.toList _ < ByteArray.toList _
    rw [ByteArray.toList_eq, ByteArray.toList_eq]
    exact h
  · rw [List.mem_map]
    constructor
    · rintro ⟨l, hl, rfl⟩
      rw [h2, List.mem_mergeSort, List.mem_map] at hl
      obtain ⟨s, hs, rfl⟩ := hl
      rw [Array.toArray_toList]
      exact List.mem_append.1 hs
    · intro h
      refine ⟨x.data.toList, ?_, by rw [Array.toArray_toList]⟩
      rw [h2, List.mem_mergeSort, List.mem_map]
      exact ⟨x, List.mem_append.2 h, rfl⟩
/-- Two rising rows laid into one. -/
def mrg : List ByteArray → List ByteArray → List ByteArray
  | [], ys => ys
  | x :: xs, [] => x :: xs
  | x :: xs, y :: ys => if Op.bytesLess x.toList y.toList = true then x :: mrg xs (y :: ys) else if x = y then y :: mrg xs ys else y :: mrg (x :: xs) ys
termination_by xs ys => xs.length + ys.length
theorem mrg_nil (ys : List ByteArray) : mrg [] ys = ys := by rw [mrg]
theorem mrg_nilR (xs : List ByteArray) : mrg xs [] = xs := by cases xs <;> rw [mrg]
theorem mrg_mem : ∀ (xs ys : List ByteArray) (z : ByteArray), z ∈ mrg xs ys ↔ z ∈ xs ∨ z ∈ ys
  | [], ys, z => by rw [mrg_nil]; simp
  | x :: xs, [], z => by rw [mrg_nilR]; simp
  | x :: xs, y :: ys, z => by
    rw [mrg]
    split
    · have := mrg_mem xs (y :: ys) z
      simp only [List.mem_cons, this, or_assoc]
    · split
      · rename_i e
        subst e
        rw [List.mem_cons, mrg_mem xs ys z, List.mem_cons, List.mem_cons]
        constructor
        · rintro (h | h | h)
          · exact .inl (.inl h)
          · exact .inl (.inr h)
          · exact .inr (.inr h)
        · rintro ((h | h) | h | h)
          · exact .inl h
          · exact .inr (.inl h)
          · exact .inl h
          · exact .inr (.inr h)
      · rw [List.mem_cons, mrg_mem (x :: xs) ys z, List.mem_cons (b := y)]
        constructor
        · rintro (h | h | h)
          · exact .inr (.inl h)
          · exact .inl h
          · exact .inr (.inr h)
        · rintro (h | h | h)
          · exact .inr (.inl h)
          · exact .inl h
          · exact .inr (.inr h)
termination_by xs ys => xs.length + ys.length
theorem mrg_rise : ∀ (xs ys : List ByteArray), xs.Pairwise BLt → ys.Pairwise BLt → (mrg xs ys).Pairwise BLt
  | [], ys, _, h => by rw [mrg_nil]; exact h
  | x :: xs, [], h, _ => by rw [mrg_nilR]; exact h
  | x :: xs, y :: ys, h1, h2 => by
    have h1' := List.pairwise_cons.1 h1
    have h2' := List.pairwise_cons.1 h2
    rw [mrg]
    split
    · rename_i hb
      have hb := bltO_iff.1 hb
      refine List.pairwise_cons.2 ⟨fun z hz => ?_, mrg_rise xs (y :: ys) h1'.2 h2⟩
      rcases (mrg_mem ..).1 hz with hz | hz
      · exact h1'.1 z hz
      · rcases List.mem_cons.1 hz with rfl | hz
        · exact hb
        · exact hb.trans (h2'.1 z hz)
    · rename_i hb
      have hb := bltO_false.1 (by simpa using hb)
      split
      · rename_i e
        subst e
        refine List.pairwise_cons.2 ⟨fun z hz => ?_, mrg_rise xs ys h1'.2 h2'.2⟩
        rcases (mrg_mem ..).1 hz with hz | hz
        · exact h1'.1 z hz
        · exact h2'.1 z hz
      · rename_i e
        have hyx : BLt y x := by
          rcases BLt.tri x y with q | q | q
          · exact absurd q hb
          · exact absurd q e
          · exact q
        refine List.pairwise_cons.2 ⟨fun z hz => ?_, mrg_rise (x :: xs) ys h1 h2'.2⟩
        rcases (mrg_mem ..).1 hz with hz | hz
        · rcases List.mem_cons.1 hz with rfl | hz
          · exact hyx
          · exact hyx.trans (h1'.1 z hz)
        · exact h2'.1 z hz
termination_by xs ys => xs.length + ys.length
theorem mrg_len : ∀ (xs ys : List ByteArray), (mrg xs ys).length ≤ xs.length + ys.length
  | [], ys => by rw [mrg_nil]; simp
  | x :: xs, [] => by rw [mrg_nilR]; simp
  | x :: xs, y :: ys => by
    rw [mrg]
    split
    · have := mrg_len xs (y :: ys)
      simp only [List.length_cons] at this ⊢; omega
    · split
      · have := mrg_len xs ys
        simp only [List.length_cons] at this ⊢; omega
      · have := mrg_len (x :: xs) ys
        simp only [List.length_cons] at this ⊢; omega
termination_by xs ys => xs.length + ys.length
theorem keysB_mrg {xs ys : List ByteArray} (h1 : xs.Pairwise BLt) (h2 : ys.Pairwise BLt) : keysB xs ys = mrg xs ys :=
  rise_ext (keysB_spec xs ys).1 (mrg_rise xs ys h1 h2) fun z => by rw [(keysB_spec xs ys).2, mrg_mem]
theorem map_toStr (l : List ByteArray) : (l.map FV.str).map FV.toStr = l := by
  rw [List.map_map]; exact (List.map_congr_left fun _ _ => rfl).trans (List.map_id l)
theorem all_isStr (l : List ByteArray) : (l.map FV.str).all FV.isStr = true := by
  refine List.all_eq_true.2 fun x hx => ?_
  obtain ⟨s, _, rfl⟩ := List.mem_map.1 hx; rfl
theorem keysP_ok (a r a' r' : Int) (us us' : List FV) {xs ys : List ByteArray} (h1 : xs.Pairwise BLt) (h2 : ys.Pairwise BLt) (hx : xs.length ≤ 134217728) (hy : ys.length ≤ 134217728) :
    Rt N_ltype_keys [.fz (.ag [.int .i64 a, .sl (xs.map .str), .sl us, .int .i64 r]), .fz (.ag [.int .i64 a', .sl (ys.map .str), .sl us', .int .i64 r'])] = some ([.fz (.sl ((mrg xs ys).map .str))], []) := by
  refine rt_prim (af := A_keys) (p := keysP) rfl rfl ?_
  show when ((xs.map FV.str).all FV.isStr && (ys.map FV.str).all FV.isStr && Nat.ble ((xs.map FV.str).length + (ys.map FV.str).length) 8796093022208) (some ([TV.fz (.sl ((keysB ((xs.map FV.str).map FV.toStr) ((ys.map FV.str).map FV.toStr)).map .str))], [])) = _
  rw [all_isStr, all_isStr, map_toStr, map_toStr, keysB_mrg h1 h2, List.length_map, List.length_map, Nat.ble_eq_true_of_le (by omega)]
  rfl
end Go.Ab
