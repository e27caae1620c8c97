-- Written for this claim by a program of the session, out of the translation's print. Lean checks it.
import Derived.Test.YteeodnnabogheaaX0
import Derived.Test.YteeodnnabogheaaX2
namespace Go.Proofs.Yteeodnnabogheaa.X
open Go.RowKit Go.Proofs.YteeodnnabogheaaY Go.Proofs.YteeodnnabogheaaW.PrintWords Go.Proofs.YteeodnnabogheaaW.PrintLast Go.Proofs.YteeodnnabogheaaW.PrintMore
attribute [local go_sem] max2_int min2_int max_two min_two max_three min_three max_four min_four   -- for this text's walks alone
set_option linter.unusedVariables false
set_option linter.unusedSimpArgs false

/-! ### level_Lattice_fill: function 25 -/
theorem yieldsIf_load_row' {P : Program} {ops : Array Oper} {S : World → Prop} {op : Oper} {a : Act} (hw : Region.wanted op (yielded ops a.tmps) = true) (ty : TypeId) (x : Operand) (ho : op.op = .load ty x)
    (g : Nat) (hx : a.eval x = .pointer (some ⟨g, 0, none⟩)) (cs : Array Value) (t : TypeId) (fr : Nat × Nat) (d : TypeDesc) (hS : ∀ w, S w → w.heap[g]? = some (.cells cs t fr))
    (hu : P.underlying ty = some d) (hd : (match d with | .struct _ | .array _ _ => true | _ => false) = true) (hi : (P.info? ty).map (·.size) = some cs.size) : YieldsIf P ops S op (.agg cs) a :=
  .inl ⟨hw, fun w hw' => by
    unfold execOp
    simp only [ho, hx, Instr.loadAt, Instr.sureAddr, Sem.run_bind, Sem.run_pure, Result.andThen_ok, run_loadVar_row w g t ty cs fr d (hS w hw') hu hd hi]⟩
/-- What holds while the lattice's block is filled. -/
def FF (w0 w : World) (W : World) (g gd : Nat) (v : Value) (q d : List Bool) (J M : List Int) (b t : Int) (T TL : Nat) : Prop :=
  LBox W g v q J M b t TL ∧ Box W gd d T ∧ Below w0.heap.size w0 W ∧ J.length = 64 ∧ M.length = 64 ∧ (∀ k, k < w.heap.size → k ≠ g → W.heap[k]? = w.heap[k]?) ∧ w.heap.size ≤ W.heap.size
section
variable {w0 w W W2 : World} {g gd : Nat} {v : Value} {q d : List Bool} {J M : List Int} {b t : Int} {T TL : Nat}
theorem FF.below (hb : Below W.heap.size W W2) (h : FF w0 w W g gd v q d J M b t T TL) : FF w0 w W2 g gd v q d J M b t T TL := by
  obtain ⟨h1, h2, h3, h4, h5, h6, h7⟩ := h
  refine ⟨blk_below h1 hb, blk_below h2 hb, below_step h3 hb, h4, h5, fun k hk hne => ?_, Nat.le_trans h7 hb.size⟩
  rw [hb.block k (by omega), h6 k hk hne]
theorem FF.drew (h : FF w0 w W g gd v q d J M b t T TL) : FF w0 w W.drew g gd v q d J M b t T TL := h.below (Below.refl _ _).drew
theorem FF.set {i : Nat} {x : Value} {J' M' : List Int} {b' t' : Int} (hg : w0.heap.size ≤ g ∧ g ≠ gd) (hJ : J'.length = 64) (hM : M'.length = 64) (hx : (latC v q J M b t).set i x = latC v q J' M' b' t') (h : FF w0 w W g gd v q d J M b t T TL) : FF w0 w (W.setCell ⟨g, i, none⟩ x) g gd v q d J' M' b' t' T TL := by
  obtain ⟨h1, h2, h3, h4, h5, h6, h7⟩ := h
  refine ⟨h1.put hx, blk_far h2 (Ne.symm hg.2) _, h3.setCell hg.1 _, hJ, hM, fun k hk hne => ?_, by simpa using h7⟩
  rw [Below.heap_setCell W ⟨g, i, none⟩ x k hne, h6 k hk hne]
theorem FF.cellJ (hq : q.length = 64) (h : FF w0 w W g gd v q d J M b t T TL) (x y : Nat) (hx : x < 8) (hy : y < 8) : W.cell? ⟨g, 65 + x * 8 + y, none⟩ = some (.int .i64 (J.getD (x * 8 + y) 0)) := by
  rw [Nat.add_assoc]; exact h.1.at (latC_J hq h.2.2.2.1 _ (by omega))
theorem FF.cellM (hq : q.length = 64) (h : FF w0 w W g gd v q d J M b t T TL) (x y : Nat) (hx : x < 8) (hy : y < 8) : W.cell? ⟨g, 129 + x * 8 + y, none⟩ = some (.int .i64 (M.getD (x * 8 + y) 0)) := by
  rw [Nat.add_assoc]; exact h.1.at (latC_M hq h.2.2.2.1 h.2.2.2.2.1 _ (by omega))
theorem FF.setJ (hq : q.length = 64) (hg : w0.heap.size ≤ g ∧ g ≠ gd) (x y : Nat) (hx : x < 8) (hy : y < 8) (u : Int) (h : FF w0 w W g gd v q d J M b t T TL) : FF w0 w (W.setCell ⟨g, 65 + x * 8 + y, none⟩ (.int .i64 u)) g gd v q d (J.set (x * 8 + y) u) M b t T TL :=
  h.set hg (by rw [List.length_set]; exact h.2.2.2.1) h.2.2.2.2.1 (by rw [Nat.add_assoc]; exact latC_setJ hq h.2.2.2.1 _ (by omega) u)
theorem FF.setM (hq : q.length = 64) (hg : w0.heap.size ≤ g ∧ g ≠ gd) (x y : Nat) (hx : x < 8) (hy : y < 8) (u : Int) (h : FF w0 w W g gd v q d J M b t T TL) : FF w0 w (W.setCell ⟨g, 129 + x * 8 + y, none⟩ (.int .i64 u)) g gd v q d J (M.set (x * 8 + y) u) b t T TL :=
  h.set hg h.2.2.2.1 (by rw [List.length_set]; exact h.2.2.2.2.1) (by rw [Nat.add_assoc]; exact latC_setM hq h.2.2.2.1 h.2.2.2.2.1 _ (by omega) u)
theorem FF.setb (hq : q.length = 64) (hg : w0.heap.size ≤ g ∧ g ≠ gd) (u : Int) (h : FF w0 w W g gd v q d J M b t T TL) : FF w0 w (W.setCell ⟨g, 193, none⟩ (.int .i64 u)) g gd v q d J M u t T TL :=
  h.set hg h.2.2.2.1 h.2.2.2.2.1 (latC_setb hq h.2.2.2.1 h.2.2.2.2.1 u)
theorem FF.sett (hq : q.length = 64) (hg : w0.heap.size ≤ g ∧ g ≠ gd) (u : Int) (h : FF w0 w W g gd v q d J M b t T TL) : FF w0 w (W.setCell ⟨g, 194, none⟩ (.int .i64 u)) g gd v q d J M b u T TL :=
  h.set hg h.2.2.2.1 h.2.2.2.2.1 (latC_sett hq h.2.2.2.1 h.2.2.2.2.1 u)
end
def FillEnd (W : World) (g : Nat) (v : Value) (q : List Bool) (r : Option (List Int × List Int × Int × Int)) (TL : Nat) : Prop := ∀ x, r = some x → LBox W g v q x.1 x.2.1 x.2.2.1 x.2.2.2 TL
set_option maxRecDepth 100000 in
set_option maxHeartbeats 4000000 in
theorem level_Lattice_fill.calls (g : Nat) (v : Value) (q : List Bool) (hq : q.length = 64) (J0 M0 : List Int) (hJ : J0.length = 64) (hM : M0.length = 64) (n : Nat) (hn : n ≤ 8) (r : Option (List Int × List Int × Int × Int)) (w0 w : World) (hB : Below w0.heap.size w0 w) (hg : w0.heap.size ≤ g)
    (hL : LBox w g v q J0 M0 0 0 64) (h : fillI q n J0 M0 = some r) :
    Calls Try.prog 25 #[.pointer (some ⟨g, 0, none⟩), .int .i64 n] w fun e w' => e = .returned (.bool r.isSome) ∧ Below w0.heap.size w0 w' ∧ (∀ k, k < w.heap.size → k ≠ g → w'.heap[k]? = w.heap[k]?) ∧ w.heap.size ≤ w'.heap.size ∧ FillEnd w' g v q r 64 := by
  have HQ := Aside0.mk hq
  have hlq := bvals_size q
  rw [hq] at hlq
  have hlq2 := bvals_len q
  rw [hq] at hlq2
  have HLQ := Aside0.mk hlq2
  have HLQ2 := Aside0.mk hlq
  have HR := Aside0.mk (hL.range hq)
  have HH := Aside0.mk h
  have hd : (turnedI q).length = 64 := turnedTo_len _ _
  have HD := Aside0.mk hd
  have hld := bvals_size (turnedI q)
  rw [hd] at hld
  have HLD := Aside0.mk hld
  have HB0 := Aside0.mk hB
  have HL0 := Aside0.mk hL
  have HJM := Aside0.mk (And.intro hJ hM)
  have hgl : g < w.heap.size := blk_lt hL
  have HG0 := Aside0.mk (And.intro hg hgl)
  clear hlq hlq2 hd hld hB hL h hq hJ hM hg hgl
  go_enter Try.func25, Try.ntmps25
  go_wp2_with (first | (refine wpList_load_mid rfl 57 (.tmp 11) rfl g 1 rfl (bvals q) _ HR.out Try.underlying57 rfl (by rw [HLQ.out]; kernel_rfl) ?_) | (go_at_call 28; refine (level_turned.calls q HQ.out _).mono ?_; rintro e w2 ⟨rfl, hb⟩) | (refine wpList_store_row rfl 57 (.tmp 5) (.tmp 13) rfl _ _ rfl rfl 57 _ (heap_alloc_new _ _) (by rw [HLD.out]; kernel_rfl) (by rw [HLD.out]; rfl) (bvals_one _) ?_))
  generalize hw : (w2.alloc _).setRow w2.heap.size _ = w3
  have hb2 : Below w2.heap.size w2 w3 := by rw [← hw]; exact below_setRow (below_alloc (Below.refl _ _) _) (Nat.le_refl _) _
  have hbx : Box w3 w2.heap.size (turnedI q) 57 := by rw [← hw]; exact setRow_heap _ _ _ _ _ _ (heap_alloc_new _ _)
  have hb3 : Below w.heap.size w w3 := below_step hb hb2
  have HF0 := Aside0.mk (show FF w0 w w3 g w2.heap.size v q (turnedI q) J0 M0 0 0 57 64 from ⟨blk_below HL0.out hb3, hbx, below_step HB0.out hb3, HJM.out.1, HJM.out.2, fun k hk _ => hb3.block k hk, hb3.size⟩)
  have HG := Aside0.mk (show w0.heap.size ≤ g ∧ g ≠ w2.heap.size from ⟨HG0.out.1, by have h1 := HG0.out.2; have h2 := hb.size; omega⟩)
  clear hw hb hb2 hbx hb3 HB0 HL0 HJM HR HG0
  generalize w2.heap.size = gd at *
  have HH2 : Aside0 ((match fillA q (turnedI q) n n 0 (J0, M0) with | none => some none | some s => (btI s.1 s.2 n 0 (0, 0)).map fun x => some (s.1, s.2, x.1, x.2)) = some r) := ⟨HH.out⟩
  clear HH
  generalize turnedI q = d at *
  obtain ⟨X, hX⟩ : ∃ X, X = fillA q d n n 0 (J0, M0) := ⟨_, rfl⟩
  rw [← hX] at HH2
  have HX := Aside0.mk hX
  clear hX
  go_loopg [15] (n + 1) (fun k u w' => ∃ (a : Nat) (J M : List Int), u = .int .i64 a ∧ a ≤ n ∧ k = n + 1 - a ∧ Aside0 (FF w0 w w' g gd v q d J M 0 0 57 64) ∧ Aside0 (X = fillA q d n (n - a) a (J, M)))
  case atStart => exact ⟨0, J0, M0, rfl, by omega, rfl, HF0, HX⟩
  clear HF0 HX
  obtain ⟨a, J, M, rfl, ha, rfl, HF, HX⟩ := hrel
  by_cases hlt : a < n
  case neg =>
    obtain rfl : a = n := by omega
    have hxn := HX.out
    rw [Nat.sub_self] at hxn
    have h2 := HH2.out
    rw [hxn] at h2
    have h3 : (btI J M (a - 0) 0 (0, 0)).map (fun x => some (J, M, x.1, x.2)) = some r := h2
    have HB := Aside0.mk h3
    clear hxn h2 h3 HX HH2
    go_wp2
    go_loopg [72] (a + 1) (fun k u w' => ∃ (c : Nat) (b0 t0 : Int), u = .int .i64 c ∧ c ≤ a ∧ k = a + 1 - c ∧ Aside0 (FF w0 w w' g gd v q d J M b0 t0 57 64) ∧ Aside0 ((btI J M (a - c) c (b0, t0)).map (fun x => some (J, M, x.1, x.2)) = some r))
    case atStart => exact ⟨0, 0, 0, rfl, by omega, rfl, HF, HB⟩
    clear HF HB
    obtain ⟨c, b0, t0, rfl, hc, rfl, HF, HB⟩ := hrel
    by_cases hltc : c < a
    case neg =>
      obtain rfl : c = a := by omega
      have hb1 := HB.out
      rw [Nat.sub_self] at hb1
      have hrs : r = some (J, M, b0, t0) := (Option.some.inj hb1).symm
      have HRS := Aside0.mk hrs
      clear hrs hb1 HB
      go_wp2
      go_ret
      exact ⟨by rw [HRS.out]; rfl, HF.out.2.2.1, HF.out.2.2.2.2.2.1, HF.out.2.2.2.2.2.2, fun x hx => by rw [HRS.out] at hx; obtain rfl := Option.some.inj hx; exact HF.out.1⟩

    have hb1 := HB.out
    rw [show a - c = (a - (c + 1)) + 1 by omega] at hb1
    unfold btI at hb1
    by_cases hbt : 0 ≤ b0 ∧ b0 < 8 ∧ 0 ≤ t0 ∧ t0 < 8
    case neg =>
      rw [if_neg hbt] at hb1
      exact absurd hb1 (by simp)
    rw [if_pos hbt] at hb1
    have HB1 := Aside0.mk hb1
    clear hb1 HB
    obtain ⟨g1, g2, g3, g4⟩ := hbt
    have hc8 : (c : Int) < 8 := by omega
    go_wp2
    · skip
      refine start_ (n := 15) (S := fun w' => w'.cell? ⟨g, 193, none⟩ = some (.int .i64 b0) ∧ w'.cell? ⟨g, 129 + b0.toNat * 8 + c, none⟩ = some (.int .i64 (M[b0.toNat * 8 + c]?.getD 0))) (ds := [14]) #[false, false, false, false, false, false, false, false, false, false, false, false, false, false, false] (by kernel_rfl) rfl rfl (⟨HF.out.1.at (latC_b HQ.out HF.out.2.2.2.1 HF.out.2.2.2.2.1), FF.cellM HQ.out HF.out b0.toNat c (by omega) (by omega)⟩) (fun hHeld => ?_)
      have HF := Aside0.mk (FF.drew HF.out)
      generalize wr.drew = w1 at HF hHeld ⊢
      refine pure_ (i := 0) (N := (some 75)) (v := ?_) (a' := ?_) #[true, false, false, false, false, false, false, false, false, false, false, false, false, false, false] rfl rfl (by kernel_rfl) (fun _ _ _ h => h) (Or.inl ⟨by rfl, ?_⟩) ?_ ?_
      rotate_left
      · intro w'
        go_simp
        with_reducible rfl
      rotate_left
      · simp only [Act.put, List.setIfInBounds_toArray, List.set_cons_zero, List.set_cons_succ, i64_w, i32_w]
        rfl
      refine pure_ (i := 1) (N := (some 76)) (v := ?_) (a' := ?_) #[true, true, false, false, false, false, false, false, false, false, false, false, false, false, false] rfl rfl (by kernel_rfl) (fun _ _ _ h => h) (Or.inl ⟨by rfl, ?_⟩) ?_ ?_
      rotate_left
      · intro w'
        go_simp
        with_reducible rfl
      rotate_left
      · simp only [Act.put, List.setIfInBounds_toArray, List.set_cons_zero, List.set_cons_succ, i64_w, i32_w]
        rfl
      refine pure_ (i := 2) (N := (some 77)) (v := ?_) (a' := ?_) #[true, true, true, false, false, false, false, false, false, false, false, false, false, false, false] rfl rfl (by kernel_rfl) (fun _ _ _ h => h) (Or.inl ⟨by rfl, ?_⟩) ?_ ?_
      rotate_left
      · intro w'
        go_simp
        with_reducible rfl
      rotate_left
      · simp only [Act.put, List.setIfInBounds_toArray, List.set_cons_zero, List.set_cons_succ, i64_w, i32_w]
        rfl
      refine pure_ (i := 3) (N := (some 78)) (v := ?_) (a' := ?_) #[true, true, true, true, false, false, false, false, false, false, false, false, false, false, false] rfl rfl (by kernel_rfl) (fun _ _ _ h => h) (Or.inl ⟨by rfl, ?_⟩) ?_ ?_
      rotate_left
      · intro w'
        go_simp
        with_reducible rfl
      rotate_left
      · simp only [Act.put, List.setIfInBounds_toArray, List.set_cons_zero, List.set_cons_succ, i64_w, i32_w]
        rfl
      refine pure_ (i := 4) (N := (some 79)) (v := ?_) (a' := ?_) #[true, true, true, true, true, false, false, false, false, false, false, false, false, false, false] rfl rfl (by kernel_rfl) (fun _ _ _ h => h) (Or.inl ⟨by rfl, ?_⟩) ?_ ?_
      rotate_left
      · intro w'
        go_simp
        with_reducible rfl
      rotate_left
      · simp only [Act.put, List.setIfInBounds_toArray, List.set_cons_zero, List.set_cons_succ, i64_w, i32_w]
        rfl
      refine pure_ (i := 6) (N := (some 81)) (v := ?_) (a' := ?_) #[true, true, true, true, true, false, true, false, false, false, false, false, false, false, false] rfl rfl (by kernel_rfl) (fun _ _ _ h => h) (Or.inl ⟨by rfl, ?_⟩) ?_ ?_
      rotate_left
      · intro w'
        go_simp
        with_reducible rfl
      rotate_left
      · simp only [Act.put, List.setIfInBounds_toArray, List.set_cons_zero, List.set_cons_succ, i64_w, i32_w]
        rfl
      refine pure_ (i := 7) (N := (some 82)) (v := ?_) (a' := ?_) #[true, true, true, true, true, false, true, true, false, false, false, false, false, false, false] rfl rfl (by kernel_rfl) (fun _ _ _ h => h) (Or.inl ⟨by rfl, ?_⟩) ?_ ?_
      rotate_left
      · intro w'
        go_simp
        with_reducible rfl
      rotate_left
      · simp only [Act.put, List.setIfInBounds_toArray, List.set_cons_zero, List.set_cons_succ, i64_w, i32_w]
        rfl
      refine pure_ (i := 8) (N := (some 83)) (v := ?_) (a' := ?_) #[true, true, true, true, true, false, true, true, true, false, false, false, false, false, false] rfl rfl (by kernel_rfl) (fun _ _ _ h => h) (Or.inl ⟨by rfl, ?_⟩) ?_ ?_
      rotate_left
      · intro w'
        go_simp
        with_reducible rfl
      rotate_left
      · simp only [Act.put, List.setIfInBounds_toArray, List.set_cons_zero, List.set_cons_succ, i64_w, i32_w]
        rfl
      refine take_ (i := 5) (N := (some 80)) (v := ?_) (a' := ?_) #[true, true, true, true, true, true, true, true, true, false, false, false, false, false, false] rfl rfl (by kernel_rfl) (fun _ _ _ h => h) (Or.inl ⟨by rfl, ?_⟩) hHeld ?_ ?_
      rotate_left
      · rintro w' ⟨s0, s1⟩
        go_simp
        with_reducible rfl
      rotate_left
      · simp only [Act.put, List.setIfInBounds_toArray, List.set_cons_zero, List.set_cons_succ, i64_w, i32_w]
        rfl
      refine pure_ (i := 9) (N := (some 84)) (v := ?_) (a' := ?_) #[true, true, true, true, true, true, true, true, true, true, false, false, false, false, false] rfl rfl (by kernel_rfl) (fun _ _ _ h => h) (Or.inl ⟨by rfl, ?_⟩) ?_ ?_
      rotate_left
      · intro w'
        go_simp
        with_reducible rfl
      rotate_left
      · simp only [Act.put, List.setIfInBounds_toArray, List.set_cons_zero, List.set_cons_succ, i64_w, i32_w]
        rfl
      refine pure_ (i := 10) (N := (some 85)) (v := ?_) (a' := ?_) #[true, true, true, true, true, true, true, true, true, true, true, false, false, false, false] rfl rfl (by kernel_rfl) (fun _ _ _ h => h) (Or.inl ⟨by rfl, ?_⟩) ?_ ?_
      rotate_left
      · intro w'
        go_simp
        with_reducible rfl
      rotate_left
      · simp only [Act.put, List.setIfInBounds_toArray, List.set_cons_zero, List.set_cons_succ, i64_w, i32_w]
        rfl
      refine take_ (i := 11) (N := (some 86)) (v := ?_) (a' := ?_) #[true, true, true, true, true, true, true, true, true, true, true, true, false, false, false] rfl rfl (by kernel_rfl) (fun _ _ _ h => h) (Or.inl ⟨by rfl, ?_⟩) hHeld ?_ ?_
      rotate_left
      · rintro w' ⟨s0, s1⟩
        go_simp
        with_reducible rfl
      rotate_left
      · simp only [Act.put, List.setIfInBounds_toArray, List.set_cons_zero, List.set_cons_succ, i64_w, i32_w]
        rfl
      refine pure_ (i := 12) (N := (some 87)) (v := ?_) (a' := ?_) #[true, true, true, true, true, true, true, true, true, true, true, true, true, false, false] rfl rfl (by kernel_rfl) (fun _ _ _ h => h) (Or.inl ⟨by rfl, ?_⟩) ?_ ?_
      rotate_left
      · intro w'
        go_simp
        with_reducible rfl
      rotate_left
      · simp only [Act.put, List.setIfInBounds_toArray, List.set_cons_zero, List.set_cons_succ, i64_w, i32_w]
        rfl
      refine pure_ (i := 13) (N := (some 88)) (v := ?_) (a' := ?_) #[true, true, true, true, true, true, true, true, true, true, true, true, true, true, false] rfl rfl (by kernel_rfl) (fun _ _ _ h => h) (Or.inl ⟨by rfl, ?_⟩) ?_ ?_
      rotate_left
      · intro w'
        go_simp
        with_reducible rfl
      rotate_left
      · simp only [Act.put, List.setIfInBounds_toArray, List.set_cons_zero, List.set_cons_succ, i64_w, i32_w]
        rfl
      refine last_ (i := 14) (N := none) #[true, true, true, true, true, true, true, true, true, true, true, true, true, true, true] rfl rfl (by kernel_rfl) (by decide) (fun K hK => ?_)
      have hs_ := HF.out.1.at (latC_b HQ.out HF.out.2.2.2.1 HF.out.2.2.2.2.1)
      have hfs_ := blk_frozen HF.out.1 193
      refine skip_ (w1 := ?_) (by rfl) rfl ?_ ?_
      rotate_left
      · go_simp
        rfl
      refine hK.out _ _ ?_
      clear hK K hs_ hfs_
      have HF := Aside0.mk (FF.setb HQ.out HG.out (M[b0.toNat * 8 + c]?.getD 0) HF.out)
      refine done_ (by kernel_rfl) ?_
      go_wp2
      generalize hw3 : w1.setCell _ _ = w2 at HF ⊢
      clear hw3
      refine start_ (n := 15) (S := fun w' => w'.cell? ⟨g, 194, none⟩ = some (.int .i64 t0) ∧ w'.cell? ⟨g, 65 + t0.toNat * 8 + c, none⟩ = some (.int .i64 (J[t0.toNat * 8 + c]?.getD 0))) (ds := [14]) #[false, false, false, false, false, false, false, false, false, false, false, false, false, false, false] (by kernel_rfl) rfl rfl (⟨HF.out.1.at (latC_t HQ.out HF.out.2.2.2.1 HF.out.2.2.2.2.1), FF.cellJ HQ.out HF.out t0.toNat c (by omega) (by omega)⟩) (fun hHeld => ?_)
      have HF := Aside0.mk (FF.drew HF.out)
      generalize w2.drew = w3 at HF hHeld ⊢
      refine pure_ (i := 0) (N := (some 89)) (v := ?_) (a' := ?_) #[true, false, false, false, false, false, false, false, false, false, false, false, false, false, false] rfl rfl (by kernel_rfl) (fun _ _ _ h => h) (Or.inl ⟨by rfl, ?_⟩) ?_ ?_
      rotate_left
      · intro w'
        go_simp
        with_reducible rfl
      rotate_left
      · simp only [Act.put, List.setIfInBounds_toArray, List.set_cons_zero, List.set_cons_succ, i64_w, i32_w]
        rfl
      refine pure_ (i := 1) (N := (some 90)) (v := ?_) (a' := ?_) #[true, true, false, false, false, false, false, false, false, false, false, false, false, false, false] rfl rfl (by kernel_rfl) (fun _ _ _ h => h) (Or.inl ⟨by rfl, ?_⟩) ?_ ?_
      rotate_left
      · intro w'
        go_simp
        with_reducible rfl
      rotate_left
      · simp only [Act.put, List.setIfInBounds_toArray, List.set_cons_zero, List.set_cons_succ, i64_w, i32_w]
        rfl
      refine pure_ (i := 2) (N := (some 91)) (v := ?_) (a' := ?_) #[true, true, true, false, false, false, false, false, false, false, false, false, false, false, false] rfl rfl (by kernel_rfl) (fun _ _ _ h => h) (Or.inl ⟨by rfl, ?_⟩) ?_ ?_
      rotate_left
      · intro w'
        go_simp
        with_reducible rfl
      rotate_left
      · simp only [Act.put, List.setIfInBounds_toArray, List.set_cons_zero, List.set_cons_succ, i64_w, i32_w]
        rfl
      refine pure_ (i := 3) (N := (some 92)) (v := ?_) (a' := ?_) #[true, true, true, true, false, false, false, false, false, false, false, false, false, false, false] rfl rfl (by kernel_rfl) (fun _ _ _ h => h) (Or.inl ⟨by rfl, ?_⟩) ?_ ?_
      rotate_left
      · intro w'
        go_simp
        with_reducible rfl
      rotate_left
      · simp only [Act.put, List.setIfInBounds_toArray, List.set_cons_zero, List.set_cons_succ, i64_w, i32_w]
        rfl
      refine pure_ (i := 4) (N := (some 93)) (v := ?_) (a' := ?_) #[true, true, true, true, true, false, false, false, false, false, false, false, false, false, false] rfl rfl (by kernel_rfl) (fun _ _ _ h => h) (Or.inl ⟨by rfl, ?_⟩) ?_ ?_
      rotate_left
      · intro w'
        go_simp
        with_reducible rfl
      rotate_left
      · simp only [Act.put, List.setIfInBounds_toArray, List.set_cons_zero, List.set_cons_succ, i64_w, i32_w]
        rfl
      refine pure_ (i := 6) (N := (some 95)) (v := ?_) (a' := ?_) #[true, true, true, true, true, false, true, false, false, false, false, false, false, false, false] rfl rfl (by kernel_rfl) (fun _ _ _ h => h) (Or.inl ⟨by rfl, ?_⟩) ?_ ?_
      rotate_left
      · intro w'
        go_simp
        with_reducible rfl
      rotate_left
      · simp only [Act.put, List.setIfInBounds_toArray, List.set_cons_zero, List.set_cons_succ, i64_w, i32_w]
        rfl
      refine pure_ (i := 7) (N := (some 96)) (v := ?_) (a' := ?_) #[true, true, true, true, true, false, true, true, false, false, false, false, false, false, false] rfl rfl (by kernel_rfl) (fun _ _ _ h => h) (Or.inl ⟨by rfl, ?_⟩) ?_ ?_
      rotate_left
      · intro w'
        go_simp
        with_reducible rfl
      rotate_left
      · simp only [Act.put, List.setIfInBounds_toArray, List.set_cons_zero, List.set_cons_succ, i64_w, i32_w]
        rfl
      refine pure_ (i := 8) (N := (some 97)) (v := ?_) (a' := ?_) #[true, true, true, true, true, false, true, true, true, false, false, false, false, false, false] rfl rfl (by kernel_rfl) (fun _ _ _ h => h) (Or.inl ⟨by rfl, ?_⟩) ?_ ?_
      rotate_left
      · intro w'
        go_simp
        with_reducible rfl
      rotate_left
      · simp only [Act.put, List.setIfInBounds_toArray, List.set_cons_zero, List.set_cons_succ, i64_w, i32_w]
        rfl
      refine take_ (i := 5) (N := (some 94)) (v := ?_) (a' := ?_) #[true, true, true, true, true, true, true, true, true, false, false, false, false, false, false] rfl rfl (by kernel_rfl) (fun _ _ _ h => h) (Or.inl ⟨by rfl, ?_⟩) hHeld ?_ ?_
      rotate_left
      · rintro w' ⟨s0, s1⟩
        go_simp
        with_reducible rfl
      rotate_left
      · simp only [Act.put, List.setIfInBounds_toArray, List.set_cons_zero, List.set_cons_succ, i64_w, i32_w]
        rfl
      refine pure_ (i := 9) (N := (some 98)) (v := ?_) (a' := ?_) #[true, true, true, true, true, true, true, true, true, true, false, false, false, false, false] rfl rfl (by kernel_rfl) (fun _ _ _ h => h) (Or.inl ⟨by rfl, ?_⟩) ?_ ?_
      rotate_left
      · intro w'
        go_simp
        with_reducible rfl
      rotate_left
      · simp only [Act.put, List.setIfInBounds_toArray, List.set_cons_zero, List.set_cons_succ, i64_w, i32_w]
        rfl
      refine pure_ (i := 10) (N := (some 99)) (v := ?_) (a' := ?_) #[true, true, true, true, true, true, true, true, true, true, true, false, false, false, false] rfl rfl (by kernel_rfl) (fun _ _ _ h => h) (Or.inl ⟨by rfl, ?_⟩) ?_ ?_
      rotate_left
      · intro w'
        go_simp
        with_reducible rfl
      rotate_left
      · simp only [Act.put, List.setIfInBounds_toArray, List.set_cons_zero, List.set_cons_succ, i64_w, i32_w]
        rfl
      refine take_ (i := 11) (N := (some 100)) (v := ?_) (a' := ?_) #[true, true, true, true, true, true, true, true, true, true, true, true, false, false, false] rfl rfl (by kernel_rfl) (fun _ _ _ h => h) (Or.inl ⟨by rfl, ?_⟩) hHeld ?_ ?_
      rotate_left
      · rintro w' ⟨s0, s1⟩
        go_simp
        with_reducible rfl
      rotate_left
      · simp only [Act.put, List.setIfInBounds_toArray, List.set_cons_zero, List.set_cons_succ, i64_w, i32_w]
        rfl
      refine pure_ (i := 12) (N := (some 101)) (v := ?_) (a' := ?_) #[true, true, true, true, true, true, true, true, true, true, true, true, true, false, false] rfl rfl (by kernel_rfl) (fun _ _ _ h => h) (Or.inl ⟨by rfl, ?_⟩) ?_ ?_
      rotate_left
      · intro w'
        go_simp
        with_reducible rfl
      rotate_left
      · simp only [Act.put, List.setIfInBounds_toArray, List.set_cons_zero, List.set_cons_succ, i64_w, i32_w]
        rfl
      refine pure_ (i := 13) (N := (some 102)) (v := ?_) (a' := ?_) #[true, true, true, true, true, true, true, true, true, true, true, true, true, true, false] rfl rfl (by kernel_rfl) (fun _ _ _ h => h) (Or.inl ⟨by rfl, ?_⟩) ?_ ?_
      rotate_left
      · intro w'
        go_simp
        with_reducible rfl
      rotate_left
      · simp only [Act.put, List.setIfInBounds_toArray, List.set_cons_zero, List.set_cons_succ, i64_w, i32_w]
        rfl
      refine last_ (i := 14) (N := none) #[true, true, true, true, true, true, true, true, true, true, true, true, true, true, true] rfl rfl (by kernel_rfl) (by decide) (fun K hK => ?_)
      have hs_ := HF.out.1.at (latC_t HQ.out HF.out.2.2.2.1 HF.out.2.2.2.2.1)
      have hfs_ := blk_frozen HF.out.1 194
      refine skip_ (w1 := ?_) (by rfl) rfl ?_ ?_
      rotate_left
      · go_simp
        rfl
      refine hK.out _ _ ?_
      clear hK K hs_ hfs_
      have HF := Aside0.mk (FF.sett HQ.out HG.out (J[t0.toNat * 8 + c]?.getD 0) HF.out)
      refine done_ (by kernel_rfl) ?_
      generalize hw3 : w3.setCell _ _ = w4 at HF ⊢
      clear hw3
      go_wp2
      go_roundg (a - c)
      case measure => omega
      case rel => exact ⟨c + 1, _, _, by go_num, by omega, by omega, HF, HB1⟩
  go_wp2
  have hx1 := HX.out
  rw [show n - a = (n - (a + 1)) + 1 by omega] at hx1
  have HX1 := Aside0.mk (show X = (fillB q d n a (n - 0) 0 (J, M)).bind (fillA q d n (n - (a + 1)) (a + 1)) from hx1)
  clear hx1 HX
  go_loopg [19] (n + 1) (fun k u w' => ∃ (b : Nat) (J M : List Int), u = .int .i64 b ∧ b ≤ n ∧ k = n + 1 - b ∧ Aside0 (FF w0 w w' g gd v q d J M 0 0 57 64) ∧ Aside0 (X = (fillB q d n a (n - b) b (J, M)).bind (fillA q d n (n - (a + 1)) (a + 1))))
  case atStart => exact ⟨0, J, M, rfl, by omega, rfl, HF, HX1⟩
  clear HF HX1 J M
  obtain ⟨b, J, M, rfl, hb, rfl, HF, HX⟩ := hrel
  by_cases hlt2 : b < n
  case neg =>
    obtain rfl : b = n := by omega
    go_wp2
    go_roundg (b - a)
    case measure => omega
    case rel => exact ⟨a + 1, J, M, by go_num, by omega, by omega, HF, ⟨by have hx := HX.out; rw [Nat.sub_self] at hx; exact hx⟩⟩
  have ha8 : (a : Int) < 8 := by omega
  have hb8 : (b : Int) < 8 := by omega
  go_wp2
  · skip
    refine start_ (n := 16) (S := fun w' => w'.rangeAt g 1 (bvals q)) (ds := [15]) #[false, false, false, false, false, false, false, false, false, false, false, false, false, false, false, false] (by kernel_rfl) rfl rfl (HF.out.1.range HQ.out) (fun hHeld => ?_)
    have HF := Aside0.mk (FF.drew HF.out)
    generalize wr.drew = w1 at HF hHeld ⊢
    refine pure_ (i := 0) (N := (some 22)) (v := ?_) (a' := ?_) #[true, false, false, false, false, false, false, false, false, false, false, false, false, false, false, false] rfl rfl (by kernel_rfl) (fun _ _ _ h => h) (Or.inl ⟨by rfl, ?_⟩) ?_ ?_
    rotate_left
    · intro w'
      go_simp
      with_reducible rfl
    rotate_left
    · simp only [Act.put, List.setIfInBounds_toArray, List.set_cons_zero, List.set_cons_succ, i64_w, i32_w]
      rfl
    refine pure_ (i := 1) (N := (some 23)) (v := ?_) (a' := ?_) #[true, true, false, false, false, false, false, false, false, false, false, false, false, false, false, false] rfl rfl (by kernel_rfl) (fun _ _ _ h => h) (Or.inl ⟨by rfl, ?_⟩) ?_ ?_
    rotate_left
    · intro w'
      go_simp
      with_reducible rfl
    rotate_left
    · simp only [Act.put, List.setIfInBounds_toArray, List.set_cons_zero, List.set_cons_succ, i64_w, i32_w]
      rfl
    refine pure_ (i := 2) (N := (some 24)) (v := ?_) (a' := ?_) #[true, true, true, false, false, false, false, false, false, false, false, false, false, false, false, false] rfl rfl (by kernel_rfl) (fun _ _ _ h => h) (Or.inl ⟨by rfl, ?_⟩) ?_ ?_
    rotate_left
    · intro w'
      go_simp
      with_reducible rfl
    rotate_left
    · simp only [Act.put, List.setIfInBounds_toArray, List.set_cons_zero, List.set_cons_succ, i64_w, i32_w]
      rfl
    refine pure_ (i := 3) (N := (some 25)) (v := ?_) (a' := ?_) #[true, true, true, true, false, false, false, false, false, false, false, false, false, false, false, false] rfl rfl (by kernel_rfl) (fun _ _ _ h => h) (Or.inl ⟨by rfl, ?_⟩) ?_ ?_
    rotate_left
    · intro w'
      go_simp
      with_reducible rfl
    rotate_left
    · simp only [Act.put, List.setIfInBounds_toArray, List.set_cons_zero, List.set_cons_succ, i64_w, i32_w]
      rfl
    refine pure_ (i := 4) (N := (some 26)) (v := ?_) (a' := ?_) #[true, true, true, true, true, false, false, false, false, false, false, false, false, false, false, false] rfl rfl (by kernel_rfl) (fun _ _ _ h => h) (Or.inl ⟨by rfl, ?_⟩) ?_ ?_
    rotate_left
    · intro w'
      go_simp
      with_reducible rfl
    rotate_left
    · simp only [Act.put, List.setIfInBounds_toArray, List.set_cons_zero, List.set_cons_succ, i64_w, i32_w]
      rfl
    refine pure_ (i := 5) (N := (some 27)) (v := ?_) (a' := ?_) #[true, true, true, true, true, true, false, false, false, false, false, false, false, false, false, false] rfl rfl (by kernel_rfl) (fun _ _ _ h => h) (Or.inl ⟨by rfl, ?_⟩) ?_ ?_
    rotate_left
    · intro w'
      go_simp
      with_reducible rfl
    rotate_left
    · simp only [Act.put, List.setIfInBounds_toArray, List.set_cons_zero, List.set_cons_succ, i64_w, i32_w]
      rfl
    refine pure_ (i := 7) (N := (some 29)) (v := ?_) (a' := ?_) #[true, true, true, true, true, true, false, true, false, false, false, false, false, false, false, false] rfl rfl (by kernel_rfl) (fun _ _ _ h => h) (Or.inl ⟨by rfl, ?_⟩) ?_ ?_
    rotate_left
    · intro w'
      go_simp
      with_reducible rfl
    rotate_left
    · simp only [Act.put, List.setIfInBounds_toArray, List.set_cons_zero, List.set_cons_succ, i64_w, i32_w]
      rfl
    refine pure_ (i := 8) (N := (some 30)) (v := ?_) (a' := ?_) #[true, true, true, true, true, true, false, true, true, false, false, false, false, false, false, false] rfl rfl (by kernel_rfl) (fun _ _ _ h => h) (Or.inl ⟨by rfl, ?_⟩) ?_ ?_
    rotate_left
    · intro w'
      go_simp
      with_reducible rfl
    rotate_left
    · simp only [Act.put, List.setIfInBounds_toArray, List.set_cons_zero, List.set_cons_succ, i64_w, i32_w]
      rfl
    refine pure_ (i := 9) (N := (some 31)) (v := ?_) (a' := ?_) #[true, true, true, true, true, true, false, true, true, true, false, false, false, false, false, false] rfl rfl (by kernel_rfl) (fun _ _ _ h => h) (Or.inl ⟨by rfl, ?_⟩) ?_ ?_
    rotate_left
    · intro w'
      go_simp
      with_reducible rfl
    rotate_left
    · simp only [Act.put, List.setIfInBounds_toArray, List.set_cons_zero, List.set_cons_succ, i64_w, i32_w]
      rfl
    refine pure_ (i := 11) (N := (some 33)) (v := ?_) (a' := ?_) #[true, true, true, true, true, true, false, true, true, true, false, true, false, false, false, false] rfl rfl (by kernel_rfl) (fun _ _ _ h => h) (Or.inl ⟨by rfl, ?_⟩) ?_ ?_
    rotate_left
    · intro w'
      go_simp
      with_reducible rfl
    rotate_left
    · simp only [Act.put, List.setIfInBounds_toArray, List.set_cons_zero, List.set_cons_succ, i64_w, i32_w]
      rfl
    refine pure_ (i := 12) (N := (some 34)) (v := ?_) (a' := ?_) #[true, true, true, true, true, true, false, true, true, true, false, true, true, false, false, false] rfl rfl (by kernel_rfl) (fun _ _ _ h => h) (Or.inl ⟨by rfl, ?_⟩) ?_ ?_
    rotate_left
    · intro w'
      go_simp
      with_reducible rfl
    rotate_left
    · simp only [Act.put, List.setIfInBounds_toArray, List.set_cons_zero, List.set_cons_succ, i64_w, i32_w]
      rfl
    refine pure_ (i := 13) (N := (some 35)) (v := ?_) (a' := ?_) #[true, true, true, true, true, true, false, true, true, true, false, true, true, true, false, false] rfl rfl (by kernel_rfl) (fun _ _ _ h => h) (Or.inl ⟨by rfl, ?_⟩) ?_ ?_
    rotate_left
    · intro w'
      go_simp
      with_reducible rfl
    rotate_left
    · simp only [Act.put, List.setIfInBounds_toArray, List.set_cons_zero, List.set_cons_succ, i64_w, i32_w]
      rfl
    refine take_ (i := 6) (N := (some 28)) (v := (.agg (bvals q).toArray)) (a' := ?_) #[true, true, true, true, true, true, true, true, true, true, false, true, true, true, false, false] rfl rfl (by kernel_rfl) (fun _ _ _ h => h) (yieldsIf_load_mid (by rfl) 57 (.tmp 27) rfl g 1 rfl (bvals q) _ (fun _ h => h) Try.underlying57 rfl (by rw [HLQ.out]; kernel_rfl)) hHeld ?_ ?_
    rotate_left
    · simp only [Act.put, List.setIfInBounds_toArray, List.set_cons_zero, List.set_cons_succ, i64_w, i32_w]
      rfl
    refine one_ (i := 10) (N := (some 32)) #[true, true, true, true, true, true, true, true, true, true, true, true, true, true, false, false] rfl rfl (by kernel_rfl) (by decide) (fun K hK => ?_)
    refine goes_ Try.func29 (by kernel_rfl) rfl #[.agg (bvals q).toArray, .int .i64 n, .int .i64 a, .int .i64 b] (by rfl) rfl rfl (by (try simp only [List.map_toArray, List.map_cons, List.map_nil]); first | done | rfl) ?_
    refine (level_over.calls q HQ.out n a b hn (by omega) (by omega) _).mono ?_
    rintro e w2 ⟨rfl, hb_⟩
    refine ⟨_, rfl, ?_⟩
    have HF := Aside0.mk (FF.below hb_ HF.out)
    clear hb_
    refine hK.out _ _ (HF.out.1.range HQ.out) (fun hHeld => ?_)
    clear hK K
    refine norm_ (a' := ?_) ?_ ?_
    rotate_left
    · show Act.put _ (some 32) _ = _
      simp only [Act.put, List.setIfInBounds_toArray, List.set_cons_zero, List.set_cons_succ, i64_w, i32_w]
      rfl
    refine pure_ (i := 14) (N := (some 36)) (v := ?_) (a' := ?_) #[true, true, true, true, true, true, true, true, true, true, true, true, true, true, true, false] rfl rfl (by kernel_rfl) (fun _ _ _ h => h) (Or.inl ⟨by rfl, ?_⟩) ?_ ?_
    rotate_left
    · intro w'
      go_simp
      with_reducible rfl
    rotate_left
    · simp only [Act.put, List.setIfInBounds_toArray, List.set_cons_zero, List.set_cons_succ, i64_w, i32_w]
      rfl
    refine last_ (i := 15) (N := none) #[true, true, true, true, true, true, true, true, true, true, true, true, true, true, true, true] rfl rfl (by kernel_rfl) (by decide) (fun K hK => ?_)
    have hs_ := FF.cellJ HQ.out HF.out a b (by omega) (by omega)
    have hfs_ := blk_frozen HF.out.1 (65 + a * 8 + b)
    refine skip_ (w1 := ?_) (by rfl) rfl ?_ ?_
    rotate_left
    · go_simp
      rfl
    refine hK.out _ _ ?_
    clear hK K hs_ hfs_
    have HF := Aside0.mk (FF.setJ HQ.out HG.out a b (by omega) (by omega) (overI q n a b) HF.out)
    refine done_ (by kernel_rfl) ?_
    go_wp2
    generalize hw3 : w2.setCell _ _ = w3 at HF ⊢
    clear hw3
    refine start_ (n := 13) (S := fun w' => w'.heap[gd]? = some (.cells (bvals d).toArray 57 (0, 0))) (ds := [12]) #[false, false, false, false, false, false, false, false, false, false, false, false, false] (by kernel_rfl) rfl rfl (HF.out.2.1) (fun hHeld => ?_)
    have HF := Aside0.mk (FF.drew HF.out)
    generalize w3.drew = w3 at HF hHeld ⊢
    refine pure_ (i := 0) (N := (some 37)) (v := ?_) (a' := ?_) #[true, false, false, false, false, false, false, false, false, false, false, false, false] rfl rfl (by kernel_rfl) (fun _ _ _ h => h) (Or.inl ⟨by rfl, ?_⟩) ?_ ?_
    rotate_left
    · intro w'
      go_simp
      with_reducible rfl
    rotate_left
    · simp only [Act.put, List.setIfInBounds_toArray, List.set_cons_zero, List.set_cons_succ, i64_w, i32_w]
      rfl
    refine pure_ (i := 1) (N := (some 38)) (v := ?_) (a' := ?_) #[true, true, false, false, false, false, false, false, false, false, false, false, false] rfl rfl (by kernel_rfl) (fun _ _ _ h => h) (Or.inl ⟨by rfl, ?_⟩) ?_ ?_
    rotate_left
    · intro w'
      go_simp
      with_reducible rfl
    rotate_left
    · simp only [Act.put, List.setIfInBounds_toArray, List.set_cons_zero, List.set_cons_succ, i64_w, i32_w]
      rfl
    refine pure_ (i := 2) (N := (some 39)) (v := ?_) (a' := ?_) #[true, true, true, false, false, false, false, false, false, false, false, false, false] rfl rfl (by kernel_rfl) (fun _ _ _ h => h) (Or.inl ⟨by rfl, ?_⟩) ?_ ?_
    rotate_left
    · intro w'
      go_simp
      with_reducible rfl
    rotate_left
    · simp only [Act.put, List.setIfInBounds_toArray, List.set_cons_zero, List.set_cons_succ, i64_w, i32_w]
      rfl
    refine pure_ (i := 4) (N := (some 41)) (v := ?_) (a' := ?_) #[true, true, true, false, true, false, false, false, false, false, false, false, false] rfl rfl (by kernel_rfl) (fun _ _ _ h => h) (Or.inl ⟨by rfl, ?_⟩) ?_ ?_
    rotate_left
    · intro w'
      go_simp
      with_reducible rfl
    rotate_left
    · simp only [Act.put, List.setIfInBounds_toArray, List.set_cons_zero, List.set_cons_succ, i64_w, i32_w]
      rfl
    refine pure_ (i := 5) (N := (some 42)) (v := ?_) (a' := ?_) #[true, true, true, false, true, true, false, false, false, false, false, false, false] rfl rfl (by kernel_rfl) (fun _ _ _ h => h) (Or.inl ⟨by rfl, ?_⟩) ?_ ?_
    rotate_left
    · intro w'
      go_simp
      with_reducible rfl
    rotate_left
    · simp only [Act.put, List.setIfInBounds_toArray, List.set_cons_zero, List.set_cons_succ, i64_w, i32_w]
      rfl
    refine pure_ (i := 6) (N := (some 43)) (v := ?_) (a' := ?_) #[true, true, true, false, true, true, true, false, false, false, false, false, false] rfl rfl (by kernel_rfl) (fun _ _ _ h => h) (Or.inl ⟨by rfl, ?_⟩) ?_ ?_
    rotate_left
    · intro w'
      go_simp
      with_reducible rfl
    rotate_left
    · simp only [Act.put, List.setIfInBounds_toArray, List.set_cons_zero, List.set_cons_succ, i64_w, i32_w]
      rfl
    refine pure_ (i := 8) (N := (some 45)) (v := ?_) (a' := ?_) #[true, true, true, false, true, true, true, false, true, false, false, false, false] rfl rfl (by kernel_rfl) (fun _ _ _ h => h) (Or.inl ⟨by rfl, ?_⟩) ?_ ?_
    rotate_left
    · intro w'
      go_simp
      with_reducible rfl
    rotate_left
    · simp only [Act.put, List.setIfInBounds_toArray, List.set_cons_zero, List.set_cons_succ, i64_w, i32_w]
      rfl
    refine pure_ (i := 9) (N := (some 46)) (v := ?_) (a' := ?_) #[true, true, true, false, true, true, true, false, true, true, false, false, false] rfl rfl (by kernel_rfl) (fun _ _ _ h => h) (Or.inl ⟨by rfl, ?_⟩) ?_ ?_
    rotate_left
    · intro w'
      go_simp
      with_reducible rfl
    rotate_left
    · simp only [Act.put, List.setIfInBounds_toArray, List.set_cons_zero, List.set_cons_succ, i64_w, i32_w]
      rfl
    refine pure_ (i := 10) (N := (some 47)) (v := ?_) (a' := ?_) #[true, true, true, false, true, true, true, false, true, true, true, false, false] rfl rfl (by kernel_rfl) (fun _ _ _ h => h) (Or.inl ⟨by rfl, ?_⟩) ?_ ?_
    rotate_left
    · intro w'
      go_simp
      with_reducible rfl
    rotate_left
    · simp only [Act.put, List.setIfInBounds_toArray, List.set_cons_zero, List.set_cons_succ, i64_w, i32_w]
      rfl
    refine take_ (i := 3) (N := (some 40)) (v := (.agg (bvals d).toArray)) (a' := ?_) #[true, true, true, true, true, true, true, false, true, true, true, false, false] rfl rfl (by kernel_rfl) (fun _ _ _ h => h) (yieldsIf_load_row' (by rfl) 57 (.tmp 5) rfl gd rfl (bvals d).toArray 57 (0, 0) _ (fun _ h => h) Try.underlying57 rfl (by rw [HLD.out]; kernel_rfl)) hHeld ?_ ?_
    rotate_left
    · simp only [Act.put, List.setIfInBounds_toArray, List.set_cons_zero, List.set_cons_succ, i64_w, i32_w]
      rfl
    refine one_ (i := 7) (N := (some 44)) #[true, true, true, true, true, true, true, true, true, true, true, false, false] rfl rfl (by kernel_rfl) (by decide) (fun K hK => ?_)
    refine goes_ Try.func29 (by kernel_rfl) rfl #[.agg (bvals d).toArray, .int .i64 n, .int .i64 a, .int .i64 b] (by rfl) rfl rfl (by (try simp only [List.map_toArray, List.map_cons, List.map_nil]); first | done | rfl) ?_
    refine (level_over.calls d HD.out n a b hn (by omega) (by omega) _).mono ?_
    rintro e w4 ⟨rfl, hb_⟩
    refine ⟨_, rfl, ?_⟩
    have HF := Aside0.mk (FF.below hb_ HF.out)
    clear hb_
    refine hK.out _ _ (HF.out.2.1) (fun hHeld => ?_)
    clear hK K
    refine norm_ (a' := ?_) ?_ ?_
    rotate_left
    · show Act.put _ (some 44) _ = _
      simp only [Act.put, List.setIfInBounds_toArray, List.set_cons_zero, List.set_cons_succ, i64_w, i32_w]
      rfl
    refine pure_ (i := 11) (N := (some 48)) (v := ?_) (a' := ?_) #[true, true, true, true, true, true, true, true, true, true, true, true, false] rfl rfl (by kernel_rfl) (fun _ _ _ h => h) (Or.inl ⟨by rfl, ?_⟩) ?_ ?_
    rotate_left
    · intro w'
      go_simp
      with_reducible rfl
    rotate_left
    · simp only [Act.put, List.setIfInBounds_toArray, List.set_cons_zero, List.set_cons_succ, i64_w, i32_w]
      rfl
    refine last_ (i := 12) (N := none) #[true, true, true, true, true, true, true, true, true, true, true, true, true] rfl rfl (by kernel_rfl) (by decide) (fun K hK => ?_)
    have hs_ := FF.cellM HQ.out HF.out a b (by omega) (by omega)
    have hfs_ := blk_frozen HF.out.1 (129 + a * 8 + b)
    refine skip_ (w1 := ?_) (by rfl) rfl ?_ ?_
    rotate_left
    · go_simp
      rfl
    refine hK.out _ _ ?_
    clear hK K hs_ hfs_
    have HF := Aside0.mk (FF.setM HQ.out HG.out a b (by omega) (by omega) (overI d n a b) HF.out)
    refine done_ (by kernel_rfl) ?_
    generalize hw5 : w4.setCell _ _ = w5 at HF ⊢
    clear hw5
    have hc1 := FF.cellJ HQ.out HF.out a b (by omega) (by omega)
    have hc2 := FF.cellM HQ.out HF.out a b (by omega) (by omega)
    have lJ := HF.out.2.2.2.1
    have lM := HF.out.2.2.2.2.1
    rw [List.length_set] at lJ lM
    rw [List.getD_eq_getElem?_getD, List.getElem?_set_self (by omega)] at hc1
    rw [List.getD_eq_getElem?_getD, List.getElem?_set_self (by omega)] at hc2
    clear lJ lM
    simp only [Option.getD_some] at hc1 hc2
    have hx1 := HX.out
    rw [show n - b = (n - (b + 1)) + 1 by omega] at hx1
    unfold fillB at hx1
    by_cases n1 : overI q n a b < 0
    · rw [if_pos n1] at hx1
      have HXN := Aside0.mk (show X = none from hx1)
      clear hx1 HX
      go_wp2
      go_ret
      have hrn : r = none := by
        have h2 := HH2.out
        rw [HXN.out] at h2
        exact (Option.some.inj h2).symm
      exact ⟨by rw [hrn]; rfl, HF.out.2.2.1, HF.out.2.2.2.2.2.1, HF.out.2.2.2.2.2.2, fun x hx => by rw [hrn] at hx; cases hx⟩
    rw [if_neg n1] at hx1
    by_cases n2 : overI d n a b < 0
    case neg =>
      rw [if_neg n2] at hx1
      have HXN := Aside0.mk hx1
      clear hx1 HX
      go_wp2
      go_roundg (n - b)
      case measure => omega
      case rel => exact ⟨b + 1, _, _, by go_num, by omega, by omega, HF, HXN⟩
    rw [if_pos n2] at hx1
    have HXN := Aside0.mk (show X = none from hx1)
    clear hx1 HX
    go_wp2
    go_ret
    have hrn : r = none := by
      have h2 := HH2.out
      rw [HXN.out] at h2
      exact (Option.some.inj h2).symm
    exact ⟨by rw [hrn]; rfl, HF.out.2.2.1, HF.out.2.2.2.2.2.1, HF.out.2.2.2.2.2.2, fun x hx => by rw [hrn] at hx; cases hx⟩
end Go.Proofs.Yteeodnnabogheaa.X
