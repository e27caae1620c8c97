/- The row ShowPlain, part 6 of 6: texts written for this work, merged by a program of the session. No condition. -/
import Derived.Test.YtkolniefdijlhaaRows
import Derived.WalkKit
import Derived.ProofKit
import Derived.OpenShut
import Derived.ShutString
import Derived.ChangeOld
import Derived.Below
import Derived.SizedLaws
import Derived.HandedShaped
import Derived.Shelf.Vars
import Derived.Deep.CondSized
import Derived.JoinedCond
import Derived.Test.YtkolniefdijlhaaMShowPlain5
set_option linter.unusedVariables false
set_option linter.unusedSimpArgs false
set_option linter.unusedSectionVars false
section
/- What the bound on all that is read gives: each text, and each list, is small. -/
namespace Go.Proofs.Ytkolniefdijlhaa
open Go Rows
def smallT (P : Program) (M : Nat) (ts : List Nat) : Bool := ts.all fun t => match P.underlying t with
  | some (.slice e) => ts.elem e && Nat.ble (P.bytesOf e) M
  | some (.struct fs) => fs.toList.all fun f => ts.elem f.type
  | some (.array _ e) => ts.elem e
  | some (.pointer e) => ts.elem e
  | some (.map _ _) => false
  | _ => true
theorem bulk_pos {H : Type} (d : DataW H) : 1 ≤ uptoBulk d := by
  cases d with
  | lit l => cases l <;> simp [uptoBulk]
  | _ => simp [uptoBulk]
theorem bulk_length {H : Type} : ∀ l : List (DataW H), l.length ≤ uptoBulkAll l
  | [] => by simp [uptoBulkAll]
  | d :: r => by
    have := bulk_pos d
    have := bulk_length r
    simp only [uptoBulkAll, List.length_cons]; omega
section
variable {H : Type} {P : Program} {M : Nat} {ts : List Nat}
theorem small_of (hT : smallT P M ts = true) {t : Nat} (ht : ts.elem t = true) {ds : TypeDesc} (hu : P.underlying t = some ds) :
    (match ds with
      | .slice e => ts.elem e = true ∧ P.bytesOf e ≤ M
      | .struct fs => ∀ f ∈ fs.toList, ts.elem f.type = true
      | .array _ e => ts.elem e = true
      | .pointer e => ts.elem e = true
      | .map _ _ => False
      | _ => True) := by
  have h := List.all_eq_true.1 hT t (by simpa using ht)
  rw [hu] at h
  cases ds <;> simp only [] <;> simp only [Bool.and_eq_true, Bool.false_eq_true] at h <;> first | trivial | exact h | skip
  · exact ⟨h.1, Nat.le_of_ble_eq_true h.2⟩
  · intro f hf; exact List.all_eq_true.1 h f hf
theorem mul_up {a b n M : Nat} (h : n ≤ a * M) (hab : a ≤ b) : n ≤ b * M := Nat.le_trans h (Nat.mul_le_mul_right M hab)
mutual
theorem weights_small (hM : 1 ≤ M) (hT : smallT P M ts = true) : ∀ (d : DataW H) (t : TypeId), ts.elem t = true → ∀ n ∈ d.weights P t, n ≤ uptoBulk d * M
  | .lit l, t, ht, n, hn => by
    cases l with
    | string bytes =>
      simp only [DataW.weights, List.mem_singleton] at hn
      subst hn
      simp only [uptoBulk]
      exact Nat.le_trans (Nat.le_succ _) (Nat.le_mul_of_pos_right _ hM)
    | _ => simp [DataW.weights] at hn
  | .nil, t, ht, n, hn => by simp [DataW.weights] at hn
  | .ptr d, t, ht, n, hn => by
    simp only [DataW.weights] at hn
    split at hn
    · rename_i e hu
      exact mul_up (weights_small hM hT d e (small_of hT ht hu) n hn) (by simp [uptoBulk])
    · cases hn
  | .slice elems spare, t, ht, n, hn => by
    simp only [DataW.weights] at hn
    split at hn
    · rename_i e hu
      obtain ⟨h1, h2⟩ := small_of hT ht hu
      rcases List.mem_cons.1 hn with rfl | hn
      · have a := bulk_length elems
        have b := bulk_length spare
        refine Nat.le_trans (Nat.mul_le_mul_left _ h2) (Nat.mul_le_mul_right M ?_)
        simp only [uptoBulk]; omega
      · rcases List.mem_append.1 hn with hn | hn
        · exact mul_up (weightsAll_small hM hT elems e h1 n hn) (by simp only [uptoBulk]; omega)
        · exact mul_up (weightsAll_small hM hT spare e h1 n hn) (by simp only [uptoBulk]; omega)
    · cases hn
  | .agg parts, t, ht, n, hn => by
    simp only [DataW.weights] at hn
    split at hn
    · rename_i fs hu
      have h1 := small_of hT ht hu
      exact mul_up (weightsEach_small hM hT parts (fs.toList.map (·.type)) (fun u hu => by obtain ⟨f, hf, rfl⟩ := List.mem_map.1 hu; exact h1 f hf) n hn) (by simp only [uptoBulk]; omega)
    · rename_i k e hu
      exact mul_up (weightsAll_small hM hT parts e (small_of hT ht hu) n hn) (by simp only [uptoBulk]; omega)
    · cases hn
  | .iface _ _, t, ht, n, hn => by simp [DataW.weights] at hn
  | .map entries, t, ht, n, hn => by
    simp only [DataW.weights] at hn
    split at hn
    · rename_i k e hu
      exact (small_of hT ht hu).elim
    · cases hn
  | .held _, t, ht, n, hn => by simp [DataW.weights] at hn
theorem weightsAll_small (hM : 1 ≤ M) (hT : smallT P M ts = true) : ∀ (l : List (DataW H)) (e : TypeId), ts.elem e = true → ∀ n ∈ DataW.weightsAll P e l, n ≤ uptoBulkAll l * M
  | [], e, he, n, hn => by simp [DataW.weightsAll] at hn
  | d :: r, e, he, n, hn => by
    simp only [DataW.weightsAll] at hn
    rcases List.mem_append.1 hn with hn | hn
    · exact mul_up (weights_small hM hT d e he n hn) (by simp only [uptoBulkAll]; omega)
    · exact mul_up (weightsAll_small hM hT r e he n hn) (by simp only [uptoBulkAll]; omega)
theorem weightsEach_small (hM : 1 ≤ M) (hT : smallT P M ts = true) : ∀ (l : List (DataW H)) (us : List TypeId), (∀ u ∈ us, ts.elem u = true) → ∀ n ∈ DataW.weightsEach P us l, n ≤ uptoBulkAll l * M
  | [], us, he, n, hn => by cases us <;> simp [DataW.weightsEach] at hn
  | d :: r, [], he, n, hn => by simp [DataW.weightsEach] at hn
  | d :: r, u :: us, he, n, hn => by
    simp only [DataW.weightsEach] at hn
    rcases List.mem_append.1 hn with hn | hn
    · exact mul_up (weights_small hM hT d u (he u (List.mem_cons_self ..)) n hn) (by simp only [uptoBulkAll]; omega)
    · exact mul_up (weightsEach_small hM hT r us (fun v hv => he v (List.mem_cons_of_mem _ hv)) n hn) (by simp only [uptoBulkAll]; omega)
end
/-- Each weight of what is read is at most so much, where all is of the bulk that the bound lets. -/
theorem weights_upto (hM : 1 ≤ M) (hT : smallT P M ts = true) {l : List (DataW H)} {us : List TypeId} (hu : us.all (ts.elem ·) = true) (hk : uptoSmall H l = true) : ∀ n ∈ DataW.weightsEach P us l, n ≤ 1048576 * M := fun n hn =>
  mul_up (weightsEach_small hM hT l us (fun u h => List.all_eq_true.1 hu u h) n hn) (of_decide_eq_true hk)
end
end Go.Proofs.Ytkolniefdijlhaa
end
section
/- ShowPlain: where all that comes in is of bulk at most 1048576, the law returns true, and its arguments read as before. No further condition. -/
namespace Go.Proofs.Ytkolniefdijlhaa.showPlain
open Go.ChangeShapes Go.WideShapes Go.ChangeAt Go.RowKit Go.Ab
set_option linter.unusedVariables false
theorem own : ownKnob Try.prog.godebug = none := by kernel_rfl
theorem laidOut : laidOutB Try.prog = true := by kernel_rfl
theorem closedE : closedT Try.prog 40 [42, 9] = true := by kernel_rfl
theorem globs (W : World) (h : W.ShapedOpen Try.prog) : GlobOK Try.prog W (fun b => b < W.heap.size) := fun g hg => by
  have e : Try.prog.globals.findIdx? (·.name == "internal/bytealg.MaxLen") = some 0 := by kernel_rfl
  rw [e] at hg; cases hg
  obtain ⟨m, hm⟩ := cell_of_shapedOpen_int (k := .i64) (zero := #[.int .i64 0]) (t := 3) h (of_decide_eq_true (by kernel_rfl)) (by kernel_rfl) rfl (by kernel_rfl) (by kernel_rfl) Try.underlying3
  refine ⟨?_, m, hm⟩
  rcases Nat.lt_or_ge 0 W.heap.size with hl | hl
  · exact hl
  · simp [World.cell?, Array.getElem?_eq_none hl] at hm
set_option maxRecDepth 100000 in
theorem lifted (os : Os) (started : os.Started) (H : Type) (enc : TypeId × Value → H) (F : Stop.Interp) :
    ReturnsInHanded {} Try.checked os 5 .any ((Rows.OpenSpec.upto Rows.showPlainSpec).pre6 enc Try.prog Try.f5 Rows.showPlainUptoRow.domain false) (((Rows.OpenSpec.upto Rows.showPlainSpec).at F).post enc Try.prog Try.f5 false true false false) := by
  refine Go.Ab.cond_shaped (C := Try.checked) (s := (Rows.OpenSpec.upto Rows.showPlainSpec)) (k := Rows.uptoSmall) rfl own started (by kernel_rfl) Try.func5
    (OpenSpec.witness (enc := enc) (C := Try.checked) (s := (Rows.OpenSpec.upto Rows.showPlainSpec)) (k := Rows.uptoSmall) rfl false ⟨#[], #[.int .i64 0, .agg #[.int .i64 0, .int .i64 0, .int .i64 0, .string ByteArray.empty, .slice none 0 0, .slice none 0 0], .int .i64 0], []⟩ 8 (by kernel_rfl) (by kernel_rfl) (by kernel_rfl)
      (x := ([.lit (.int .i64 0), .agg [.lit (.int .i64 0), .agg [.lit (.int .i64 0), .lit (.int .i64 0)], .lit (.string []), .nil, .nil], .lit (.int .i64 0)], [], [])) (by kernel_rfl) rfl (by kernel_rfl)) ?_
  intro W base args ds gs before hval0 hW hcnd hk0 hsz0 hsh _
  have hsz : ∀ n ∈ DataW.weightsEach Try.prog (Try.f5.params.toList ++ Rows.showPlainSpec.plain.varTypes Try.prog) (ds ++ gs), n ≤ 134217728 := weights_upto (M := 128) (ts := [3, 42, 23, 9, 40, 25, 2]) (by omega) (by kernel_rfl) (by kernel_rfl) hk0
  have hval : ∀ (j : Nat) t v, Try.f5.params[j]? = some t → args[j]? = some v → Value.okWide Try.prog W .any base t v := hval0
  have hW' := hW
  obtain ⟨p, q, hA0, hV, rfl, hfz, hnd⟩ := hW
  have hA : DataW.TrodAll enc Try.prog W 0 (fun _ => true) true Try.f5.params.toList args.toList ds p := hA0
  rw [Try.params5] at hA hval hsz
  obtain ⟨v0, vs0, d0, ds0, p0, q0, hargs, rfl, rfl, h0, r0⟩ := trodAll_cons hA
  obtain ⟨v1, vs1, d1, ds1, p1, q1, rfl, rfl, rfl, h1, r1⟩ := trodAll_cons r0
  obtain ⟨v2, vs2, d2, ds2, p2, q2, rfl, rfl, rfl, h2, r2⟩ := trodAll_cons r1
  obtain ⟨rfl, rfl, rfl⟩ := trodAll_nil r2
  obtain rfl : args = #[v0, v1, v2] := by cases args; simp_all
  obtain ⟨rfl, rfl⟩ := trodVars_none hV
  have k0 := h0
  have lt0 : ∀ x ∈ p0, x.block < W.heap.size := by obtain ⟨m, hm⟩ := k0; exact DataW.trod_lt m _ _ _ hm
  obtain ⟨f0, R0, V0⟩ := read_value closedE (t := 3) (by kernel_rfl) (hval 0 3 v0 rfl rfl) k0 (fun k hk => hsz k (DataW.weights_mem_each (j := 0) (t := 3) rfl rfl k hk))
  have k1 := h1
  have lt1 : ∀ x ∈ p1, x.block < W.heap.size := by obtain ⟨m, hm⟩ := k1; exact DataW.trod_lt m _ _ _ hm
  obtain ⟨f1, R1, V1⟩ := read_value closedE (t := 42) (by kernel_rfl) (hval 1 42 v1 rfl rfl) k1 (fun k hk => hsz k (DataW.weights_mem_each (j := 1) (t := 42) rfl rfl k hk))
  have k2 := h2
  have lt2 : ∀ x ∈ p2, x.block < W.heap.size := by obtain ⟨m, hm⟩ := k2; exact DataW.trod_lt m _ _ _ hm
  obtain ⟨f2, R2, V2⟩ := read_value closedE (t := 3) (by kernel_rfl) (hval 2 3 v2 rfl rfl) k2 (fun k hk => hsz k (DataW.weights_mem_each (j := 2) (t := 3) rfl rfl k hk))
  clear hA0 hval0 hsz0 hsz hk0
  have hp := pure_ShowPlain f0 f1 f2 V0 V1 V2
  obtain ⟨k, hk⟩ := RR_tells.1 hp
  refine (law_calls tab_ok (fs := [f0, f1, f2]) (args := #[v0, v1, v2]) (W := W) hk (globs _ hsh) ⟨R0, R1, R2, trivial⟩).mono fun e W' ⟨he, bel⟩ => ?_
  subst he
  exact ⟨_, rfl, _, _, _, [], _, [], hW', trodAll_mk1 (shut_bool Try.underlying4 _), (trodAll_cons_mk (Below.trod laidOut (by kernel_rfl) (of_decide_eq_true (by kernel_rfl)) k0 bel lt0) (trodAll_cons_mk (Below.trod laidOut (by kernel_rfl) (of_decide_eq_true (by kernel_rfl)) k1 bel lt1) (trodAll_cons_mk (Below.trod laidOut (by kernel_rfl) (of_decide_eq_true (by kernel_rfl)) k2 bel lt2) trodAll_mk0))), rfl, bel.frame _, fun h => by cases h⟩
theorem proved : Rows.ShowPlainUptoSaid :=
  OpenClaim.holds_of_cond 5 Try.f5 rfl rfl rfl rfl rfl rfl rfl ⟨rfl, rfl, rfl, rfl, rfl⟩ rfl rfl rfl rfl rfl (by kernel_rfl) Try.func5 (by kernel_rfl)
    (of_decide_eq_true (by kernel_rfl)) (by unfold Func.isWrapper; first | (rw [if_pos (by decide +kernel)]; kernel_rfl) | (rw [if_neg (by decide +kernel)]; exact ⟨rfl, rfl⟩))
    (fun os started H enc _ F => lifted os started H enc F)
#print axioms proved
end Go.Proofs.Ytkolniefdijlhaa.showPlain
namespace Go.Proofs.Ytkolniefdijlhaa
/-- The row, under a short name, for the claim. -/
theorem showPlain_upto : Rows.ShowPlainUptoSaid := showPlain.proved
end Go.Proofs.Ytkolniefdijlhaa
end
