-- Written for this claim by a program of the session, out of the translation's print. Lean checks it.
import Derived.Test.YteeodnnabogheaaX0
import Derived.Test.YteeodnnabogheaaX2
import Derived.Test.YteeodnnabogheaaX3
namespace Go.Proofs.Yteeodnnabogheaa.X
open Go.RowKit Go.Proofs.YteeodnnabogheaaY Go.Proofs.YteeodnnabogheaaW.PrintWords Go.Proofs.YteeodnnabogheaaW.PrintLast Go.Proofs.YteeodnnabogheaaW.PrintMore
attribute [local go_sem] max2_int min2_int max_two min_two max_three min_three max_four min_four   -- for this text's walks alone
set_option linter.unusedVariables false
set_option linter.unusedSimpArgs false

/-! ### level_New: function 10 -/
def zerosI : List Int := List.replicate 64 0
def level_New.told (names : List ByteArray) (t : List Bool) (o : Option (List Int × List Int × Int × Int)) : Option (List Lat × Int) :=
  match o with
  | none => some ([], 9)
  | some x => some ([⟨names, t, x.1, x.2.1, x.2.2.1, x.2.2.2⟩], 0)
def level_New.f (k : Nat) (l0_0 : List ByteArray) (l0_1 : List S52) (l0_2 : List S36) : Option (List Lat × Int) :=
  (level_named.f k l0_0).bind fun ok => if ok = true then
    (if (laidI l0_0.length (pairs2 l0_1)).2 = true then (closedI k (laidI l0_0.length (pairs2 l0_1)).1 l0_0.length).bind fun t =>
      if twistedI t l0_0.length = true then some ([], 9) else (fillI t l0_0.length zerosI zerosI).bind (level_New.told l0_0 t)
    else some ([], 2)) else some ([], 10)
theorem level_New.closed_mono (t : List Bool) (n k : Nat) : LeO (closedI k t n) (closedI (k + 1) t n) := by
  induction k generalizing t with
  | zero => intro r h; simp [closedI] at h
  | succ k ih =>
    intro r h
    rw [closedI] at h ⊢
    by_cases c : closeAll n t = t
    · rw [if_pos c] at h ⊢; exact h
    · rw [if_neg c] at h ⊢; exact ih _ r h
theorem level_New.mono : ∀ a0 a1 a2 k, LeO (level_New.f k a0 a1 a2) (level_New.f (k + 1) a0 a1 a2) := by
  intro a0 a1 a2 k
  unfold level_New.f
  refine LeO.bind (level_named.mono _ _) (fun ok => LeO.ite ?_ (LeO.refl _))
  refine LeO.ite (LeO.bind (level_New.closed_mono _ _ _) (fun t => LeO.refl _)) (LeO.refl _)
theorem level_New.small (k : Nat) (l : List ByteArray) (h : level_named.f k l = some true) : l.length ≤ 8 := by
  rcases Nat.lt_or_ge 8 l.length with h8 | h8
  · exfalso
    unfold level_named.f at h
    rw [if_neg (by omega), decide_eq_true (by omega : (l.length : Int) > 8)] at h
    cases k with
    | zero => simp [level_named.j0] at h
    | succ k => simp [level_named.j0] at h
  · exact h8
theorem level_New.closed_len : ∀ (k : Nat) (t u : List Bool) (n : Nat), t.length = 64 → closedI k t n = some u → u.length = 64 := by
  intro k
  induction k with
  | zero => intro t u n ht h; simp [closedI] at h
  | succ k ih =>
    intro t u n ht h
    rw [closedI] at h
    by_cases c : closeAll n t = t
    · rw [if_pos c] at h; injection h with h; rw [← h]; exact ht
    · rw [if_neg c] at h; exact ih _ _ _ (closeAll_len n t ht) h
theorem level_New.by_places (t : List Bool) (ht : t.length = 64) : t = (List.range 64).map (fun i => t.getD i false) := by
  apply List.ext_getElem
  · simp [ht]
  · intro i h1 h2
    simp [List.getD, List.getElem?_eq_getElem h1]
set_option maxRecDepth 100000 in
theorem level_New.built_f (A : Option Addr) (n c : Nat) (f : Nat → Bool) : Try.prog.built 64 [(0, .slice A n c), (1, .agg (bvals ((List.range 64).map f)).toArray)] = some (latC (.slice A n c) ((List.range 64).map f) zerosI zerosI 0 0).toArray := by kernel_rfl
theorem level_New.built (A : Option Addr) (n c : Nat) (t : List Bool) (ht : t.length = 64) : Try.prog.built 64 [(0, .slice A n c), (1, .agg (bvals t).toArray)] = some (latC (.slice A n c) t zerosI zerosI 0 0).toArray := by
  rw [level_New.by_places t ht]
  exact level_New.built_f A n c _
theorem yields_build {P : Program} {ops : Array Oper} {o : Oper} {a : Act} {T : TypeId} {parts : Array (Nat × Operand)} {vs : Array (Nat × Value)} {cells : Array Value} (hw : Region.wanted o (yielded ops a.tmps) = true) (ho : o.op = .build T parts)
    (hv : (parts.map fun (i, x) => (i, a.eval x)) = vs) (hb : P.built T vs.toList = some cells) : Yields P ops o (.agg cells) a := by
  subst hv
  refine .inl ⟨hw, fun w' => ?_⟩
  unfold execOp
  simp only [ho, Sem.run_bind, run_build w' T _ cells hb, Result.andThen_ok]
  first | done | rfl
theorem level_New.fillB_len (q d : List Bool) (n a : Nat) : ∀ (m b : Nat) (s s' : List Int × List Int), fillB q d n a m b s = some s' → s'.1.length = s.1.length ∧ s'.2.length = s.2.length := by
  intro m
  induction m with
  | zero => intro b s s' h; simp only [fillB, Option.some.injEq] at h; subst h; exact ⟨rfl, rfl⟩
  | succ m ih =>
    intro b s s' h
    rw [fillB] at h
    split at h
    · cases h
    · split at h
      · cases h
      · have := ih _ _ _ h
        simpa using this
theorem level_New.fillA_len (q d : List Bool) (n : Nat) : ∀ (m a : Nat) (s s' : List Int × List Int), fillA q d n m a s = some s' → s'.1.length = s.1.length ∧ s'.2.length = s.2.length := by
  intro m
  induction m with
  | zero => intro b s s' h; simp only [fillA, Option.some.injEq] at h; subst h; exact ⟨rfl, rfl⟩
  | succ m ih =>
    intro a s s' h
    rw [fillA] at h
    obtain ⟨u, h1, h2⟩ := Option.bind_eq_some_iff.1 h
    have e1 := level_New.fillB_len _ _ _ _ _ _ _ _ h1
    have e2 := ih _ _ _ h2
    exact ⟨e2.1.trans e1.1, e2.2.trans e1.2⟩
theorem level_New.fill_len (q : List Bool) (n : Nat) (J M : List Int) (x : List Int × List Int × Int × Int) (h : fillI q n J M = some (some x)) : x.1.length = J.length ∧ x.2.1.length = M.length := by
  unfold fillI at h
  split at h
  · simp at h
  · rename_i s hs
    have e := level_New.fillA_len _ _ _ _ _ _ _ hs
    obtain ⟨y, h1, h2⟩ := Option.map_eq_some_iff.1 h
    injection h2 with h2
    subst h2
    exact e
theorem level_New.held {w w' : World} {gb : Nat} {A : Option Addr} {c : Nat} {names : List ByteArray} {q : List Bool} {J M : List Int} {b t : Int} (hgb : w.heap.size ≤ gb) (hL : LBox w' gb (.slice A names.length c) q J M b t 64) (hq : q.length = 64) (hJ : J.length = 64) (hM : M.length = 64)
    (hV : Kd.V Kd.string 9 w' w.heap.size (fun k_ => w.heap.size ≤ k_) (.slice A names.length c) names) :
    Kd.V klat 64 w' w.heap.size (fun k_ => w.heap.size ≤ k_) (.slice (some ⟨gb, 0, none⟩) 1 1) [(⟨names, q, J, M, b, t⟩ : Lat)] := by
  obtain ⟨_, hle, hF⟩ := Kd.V_at hV
  refine ⟨some ⟨gb, 0, none⟩, 1, rfl, Nat.le_refl _, fun W' hW => ⟨rfl, by simp, fun _ => ⟨_, rfl, fun j p hp => ?_⟩⟩⟩
  have hj : j = 0 := by
    have := (List.getElem?_eq_some_iff.1 hp).1
    simpa using this
  subst hj
  simp only [List.getElem?_cons_zero, Option.some.injEq] at hp
  subst hp
  have hL' : LBox W' gb (.slice A names.length c) q J M b t 64 := (hW gb hgb (blk_lt hL)).trans hL
  refine ⟨latC (.slice A names.length c) q J M b t, by simp [latC, bvals, ivals, hq, hJ, hM]; rfl, klat_K.2 ⟨A, c, rfl, hle, hF W' hW, hq, hJ, hM⟩, fun i u hu => ?_⟩
  have h1 := hL'.at hu
  rw [Nat.zero_mul, Nat.zero_add]
  unfold Addr.add
  split
  · rename_i h0; subst h0; exact h1
  · simpa using h1
set_option maxRecDepth 100000 in
set_option maxHeartbeats 4000000 in
theorem level_New.calls (k : Nat) (A0_0 : Option Addr) (c0_0 : Nat) (l0_0 : List ByteArray) (A0_1 : Option Addr) (c0_1 : Nat) (l0_1 : List S52) (A0_2 : Option Addr) (c0_2 : Nat) (l0_2 : List S36) (r1 : List Lat) (r2 : Int) (w : World) (hr0_0 : Kd.C Kd.string w A0_0 l0_0.length l0_0) (hc0_0 : l0_0.length ≤ c0_0) (hr0_1 : Kd.C k52 w A0_1 l0_1.length l0_1) (hc0_1 : l0_1.length ≤ c0_1) (hr0_2 : Kd.C k36 w A0_2 l0_2.length l0_2) (hc0_2 : l0_2.length ≤ c0_2) (h : level_New.f k l0_0 l0_1 l0_2 = some (r1, r2)) :
    Calls Try.prog 10 #[.agg #[.slice A0_0 l0_0.length c0_0, .slice A0_1 l0_1.length c0_1, .slice A0_2 l0_2.length c0_2]] w fun e w' => ∃ v1_ : Value, e = .returned (.tuple #[ptrOf v1_, .int .i64 r2]) ∧ Kd.V klat 64 w' w.heap.size (fun k_ => w.heap.size ≤ k_) v1_ r1 ∧ Below w.heap.size w w' := by
  have HR0 := Aside0.mk hr0_0
  have HC0 := Aside0.mk hc0_0
  have HR1 := Aside0.mk hr0_1
  have HC1 := Aside0.mk hc0_1
  clear hr0_0 hc0_0 hr0_1 hc0_1 hr0_2 hc0_2
  unfold level_New.f at h
  obtain ⟨ok, h1, h⟩ := Option.bind_eq_some_iff.1 h
  have H := Aside0.mk h
  have H1 := Aside0.mk h1
  clear h h1
  have HBX := Aside0.mk (heap_alloc_new w (.cells #[.slice A0_0 l0_0.length c0_0, .slice A0_1 l0_1.length c0_1, .slice A0_2 l0_2.length c0_2] 28))
  have hnil : Kd.V klat 64 w w.heap.size (fun k_ => w.heap.size ≤ k_) (.slice none 0 0) [] := ⟨none, 0, rfl, Nat.le_refl _, fun _ _ => ⟨rfl, Nat.zero_le _, fun h => absurd h (Nat.lt_irrefl _)⟩⟩
  have HN := Aside0.mk (show ∀ W : World, Kd.V klat 64 W w.heap.size (fun k_ => w.heap.size ≤ k_) (.slice none 0 0) [] from fun W => ⟨none, 0, rfl, Nat.le_refl _, fun _ _ => ⟨rfl, Nat.zero_le _, fun h => absurd h (Nat.lt_irrefl _)⟩⟩)
  clear hnil
  go_enter Try.func10, Try.ntmps10
  cases ok with
  | false =>
    have h := H.out
    simp only [Bool.false_eq_true, if_false, Option.some.injEq, Prod.mk.injEq] at h
    obtain ⟨rfl, rfl⟩ := h
    go_wp2_with (first | (go_at_call 21; refine (level_named.calls k _ _ l0_0 false _ (Kd.C_alloc HR0.out _) HC0.out H1.out).mono ?_; rintro e w2 ⟨rfl, hd⟩))
    go_ret2
    exact ⟨.slice none 0 0, rfl, HN.out _, below_step (below_alloc (Below.refl _ _) _) hd.below⟩
  | true =>
    have hn := level_New.small k l0_0 H1.out
    have h := H.out
    simp only [if_true] at h
    have H := Aside0.mk h
    clear h
    obtain ⟨t0, ht0⟩ : ∃ t0, t0 = (laidI l0_0.length (pairs2 l0_1)).1 := ⟨_, rfl⟩
    obtain ⟨ok2, hok2⟩ : ∃ b, b = (laidI l0_0.length (pairs2 l0_1)).2 := ⟨_, rfl⟩
    have hlen0 : t0.length = 64 := by rw [ht0]; exact laidI_len _ _
    have hsz0 := bvals_size t0
    rw [hlen0] at hsz0
    have HSZ := Aside0.mk hsz0
    have HLEN0 := Aside0.mk hlen0
    have HL0 := Aside0.mk (And.intro ht0 hok2)
    have HH : Aside0 ((if ok2 = true then (closedI k t0 l0_0.length).bind fun t => if twistedI t l0_0.length = true then some ([], 9) else (fillI t l0_0.length zerosI zerosI).bind (level_New.told l0_0 t) else some ([], 2)) = some (r1, r2)) := ⟨by rw [hok2, ht0]; exact H.out⟩
    clear ht0 hok2 H hsz0 hlen0
    cases ok2 with
    | false =>
      have h := HH.out
      simp only [Bool.false_eq_true, if_false, Option.some.injEq, Prod.mk.injEq] at h
      obtain ⟨rfl, rfl⟩ := h
      go_wp2_with (first | (go_at_call 21; refine (level_named.calls k _ _ l0_0 true _ (Kd.C_alloc HR0.out _) HC0.out H1.out).mono ?_; rintro e w2 ⟨rfl, hd⟩; have HB2 := Aside0.mk (below_step (below_alloc (Below.refl w.heap.size w) _) hd.below); have HX2 := Aside0.mk (blk_below HBX.out hd.below); have hc0 := (blk_cell HX2.out 0).trans rfl; have hc1 := (blk_cell HX2.out 1).trans rfl) | (go_at_call 22; refine (level_laid.calls l0_0.length hn _ _ l0_1 _ (Kd.C_below HR1.out HB2.out) HC1.out).mono ?_; rw [← HL0.out.1, ← HL0.out.2]; rintro e w3 ⟨rfl, hb3⟩; have HB3 := Aside0.mk (below_step HB2.out hb3); have HX3 := Aside0.mk (blk_below HX2.out hb3)) | (refine wpList_store_row rfl 57 (.tmp 5) (.tmp 20) rfl _ _ rfl rfl 57 _ (heap_alloc_new _ _) (by rw [HSZ.out]; kernel_rfl) (by rw [HSZ.out]; rfl) (bvals_one _) ?_))
      generalize hw4 : (w3.alloc _).setRow w3.heap.size _ = w4
      have hb4 : Below w3.heap.size w3 w4 := by rw [← hw4]; exact below_setRow (below_alloc (Below.refl _ _) _) (Nat.le_refl _) _
      have hbx4 : Box w4 w3.heap.size t0 57 := by rw [← hw4]; exact setRow_heap _ _ _ _ _ _ (heap_alloc_new _ _)
      have HB4 := Aside0.mk (below_step HB3.out hb4)
      have HX4 := Aside0.mk (blk_below HX3.out hb4)
      have HT4 := Aside0.mk hbx4
      have HG4 := Aside0.mk (show w.heap.size < w3.heap.size from blk_lt HX3.out)
      clear hw4 hb4 hbx4
      generalize w3.heap.size = gt at *
      go_ret2
      exact ⟨.slice none 0 0, rfl, HN.out _, HB4.out⟩
    | true =>
      have h := HH.out
      simp only [if_true] at h
      obtain ⟨q, hq, h⟩ := Option.bind_eq_some_iff.1 h
      have hqlen := level_New.closed_len _ _ _ _ HLEN0.out hq
      have HQ := Aside0.mk hq
      have HQL := Aside0.mk hqlen
      have HT := Aside0.mk h
      clear h hq hqlen
      go_wp2_with (first | (go_at_call 21; refine (level_named.calls k _ _ l0_0 true _ (Kd.C_alloc HR0.out _) HC0.out H1.out).mono ?_; rintro e w2 ⟨rfl, hd⟩; have HB2 := Aside0.mk (below_step (below_alloc (Below.refl w.heap.size w) _) hd.below); have HX2 := Aside0.mk (blk_below HBX.out hd.below); have hc0 := (blk_cell HX2.out 0).trans rfl; have hc1 := (blk_cell HX2.out 1).trans rfl) | (go_at_call 22; refine (level_laid.calls l0_0.length hn _ _ l0_1 _ (Kd.C_below HR1.out HB2.out) HC1.out).mono ?_; rw [← HL0.out.1, ← HL0.out.2]; rintro e w3 ⟨rfl, hb3⟩; have HB3 := Aside0.mk (below_step HB2.out hb3); have HX3 := Aside0.mk (blk_below HX2.out hb3)) | (refine wpList_store_row rfl 57 (.tmp 5) (.tmp 20) rfl _ _ rfl rfl 57 _ (heap_alloc_new _ _) (by rw [HSZ.out]; kernel_rfl) (by rw [HSZ.out]; rfl) (bvals_one _) ?_))
      generalize hw4 : (w3.alloc _).setRow w3.heap.size _ = w4
      have hb4 : Below w3.heap.size w3 w4 := by rw [← hw4]; exact below_setRow (below_alloc (Below.refl _ _) _) (Nat.le_refl _) _
      have hbx4 : Box w4 w3.heap.size t0 57 := by rw [← hw4]; exact setRow_heap _ _ _ _ _ _ (heap_alloc_new _ _)
      have HB4 := Aside0.mk (below_step HB3.out hb4)
      have HX4 := Aside0.mk (blk_below HX3.out hb4)
      have HT4 := Aside0.mk hbx4
      have HG4 := Aside0.mk (show w.heap.size < w3.heap.size from blk_lt HX3.out)
      clear hw4 hb4 hbx4
      generalize w3.heap.size = gt at *
      refine start_ (n := 10) (S := fun w' => w'.cell? ⟨w.heap.size, 0, none⟩ = some (.slice A0_0 l0_0.length c0_0) ∧ Box w' gt t0 57) (ds := []) #[false, false, false, false, false, false, false, false, false, false] (by kernel_rfl) rfl rfl ⟨(blk_cell (blk_drew HX4.out) 0).trans rfl, blk_drew HT4.out⟩ (fun hHeld => ?_)
      have HB5 := Aside0.mk (below_drew1 HB4.out)
      have HX5 := Aside0.mk (blk_drew HX4.out)
      have HT5 := Aside0.mk (show Box w4.drew gt t0 57 from blk_drew HT4.out)
      generalize w4.drew = w5 at HB5 HX5 HT5 hHeld ⊢
      refine pure_ (i := 1) (N := some 25) (v := ?_) (a' := ?_) #[false, true, false, false, false, false, false, false, false, false] rfl rfl (by kernel_rfl) (fun _ _ _ h => h) (Or.inl ⟨by rfl, ?_⟩) ?_ ?_
      rotate_left
      · intro w'
        go_simp
        with_reducible rfl
      rotate_left
      · simp only [Act.put, List.setIfInBounds_toArray, List.set_cons_zero, List.set_cons_succ, i64_w, i32_w]
        rfl
      refine pure_ (i := 5) (N := some 29) (v := ?_) (a' := ?_) #[false, true, false, false, false, true, false, false, false, false] rfl rfl (by kernel_rfl) (fun _ _ _ h => h) (Or.inl ⟨by rfl, ?_⟩) ?_ ?_
      rotate_left
      · intro w'
        go_simp
        with_reducible rfl
      rotate_left
      · simp only [Act.put, List.setIfInBounds_toArray, List.set_cons_zero, List.set_cons_succ, i64_w, i32_w]
        rfl
      refine take_ (i := 2) (N := some 26) (v := ?_) (a' := ?_) #[false, true, true, false, false, true, false, false, false, false] rfl rfl (by kernel_rfl) (fun _ _ _ h => h) (Or.inl ⟨by rfl, ?_⟩) hHeld ?_ ?_
      rotate_left
      · rintro w' ⟨s0, _⟩
        go_simp
        with_reducible rfl
      rotate_left
      · simp only [Act.put, List.setIfInBounds_toArray, List.set_cons_zero, List.set_cons_succ, i64_w, i32_w]
        rfl
      refine take_ (i := 4) (N := some 28) (v := (.agg (bvals t0).toArray)) (a' := ?_) #[false, true, true, false, true, true, false, false, false, false] rfl rfl (by kernel_rfl) (fun _ _ _ h => h) (yieldsIf_load_row' (by rfl) 57 (.tmp 5) rfl gt rfl (bvals t0).toArray 57 (0, 0) _ (fun _ h => h.2) Try.underlying57 rfl (by rw [HSZ.out]; kernel_rfl)) hHeld ?_ ?_
      rotate_left
      · simp only [Act.put, List.setIfInBounds_toArray, List.set_cons_zero, List.set_cons_succ, i64_w, i32_w]
        rfl
      refine one_ (i := 0) (N := some 24) #[true, true, true, false, true, true, false, false, false, false] rfl rfl (by kernel_rfl) (by decide) (fun K hK => ?_)
      refine Kd.R_lit_step (w0 := w) Kd.string w.heap.size 9 ?hg (N := 24) ?hd (xs := ([] : List ByteArray)) (inner := []) (ok := fun _ => True) (okp := fun _ => True) ?hr ?hp (fun _ hk => hk) trivial HB5.out HB5.out.size (by simp) ?_; (case hd => rfl); (case hg => rfl); (case hr => first | (go_simp; done) | (go_simp; rfl)); (case hp => exact (Reps.none _ _))
      intro v24 w6 ho hb6 hg6 hnew6
      have HB6 := Aside0.mk hb6
      have HX6 := Aside0.mk (blk_grown HX5.out hg6 (by simp))
      have HT6 := Aside0.mk (show Box w6 gt t0 57 from blk_grown HT5.out hg6 (by simp))
      have HO6 := Aside0.mk ho
      clear hb6 hg6 hnew6 ho
      refine hK.out _ _ ⟨(blk_cell HX6.out 0).trans rfl, HT6.out⟩ (fun hHeld => ?_)
      clear hK K
      refine norm_ (a' := ?_) ?_ ?_
      rotate_left
      · show Act.put _ (some 24) _ = _
        simp only [Act.put, List.setIfInBounds_toArray, List.set_cons_zero, List.set_cons_succ, i64_w, i32_w]
        rfl
      refine one_ (i := 3) (N := some 27) #[true, true, true, true, true, true, false, false, false, false] rfl rfl (by kernel_rfl) (by decide) (fun K hK => ?_)
      refine Kd.R_append_rows_step Kd.string (w0 := w) w.heap.size (by rfl) (.tmp 24) (.tmp 26) 25 9 (.string ⟨#[]⟩) 16 rfl Try.underlying25 info9 rfl (by decide) (by omega) v24 ([] : List ByteArray) l0_0 _ _ _ (fun _ => True) (fun _ => False) rfl rfl ?aO ?aR (fun _ _ h => h) (fun _ h => h.elim) ?aF ?aB ?aS ?aL ?_
      (case aR => exact (Kd.C_below HR0.out HB6.out))
      (case aB => exact HB6.out)
      (case aF => exact (fun _ _ => trivial))
      (case aO => exact HO6.out)
      (case aS => exact HB6.out.size)
      (case aL => simp only [List.length_nil]; omega)
      intro v27 w7 ho hb hg hat
      have HX7 := Aside0.mk (blk_grown HX6.out hg (Kd.R_ne HO6.out HX6.out (by decide)))
      have HT7 := Aside0.mk (show Box w7 gt t0 57 from blk_grown HT6.out hg (Kd.R_ne HO6.out HT6.out (by decide)))
      have HB7 := Aside0.mk hb
      have HO7 := Aside0.mk (show Kd.R Kd.string 9 w7 w.heap.size (fun _ => True) v27 l0_0 from ho)
      clear ho hb hg hat
      obtain ⟨Ao, co, rfl⟩ := Kd.R_slice HO7.out
      refine hK.out _ _ ⟨(blk_cell HX7.out 0).trans rfl, HT7.out⟩ (fun hHeld => ?_)
      clear hK K
      refine norm_ (a' := ?_) ?_ ?_
      rotate_left
      · show Act.put _ (some 27) _ = _
        simp only [Act.put, List.setIfInBounds_toArray, List.set_cons_zero, List.set_cons_succ, i64_w, i32_w]
        rfl
      refine one_ (i := 6) (N := some 30) #[true, true, true, true, true, true, true, false, false, false] rfl rfl (by kernel_rfl) (by decide) (fun K hK => ?_)
      refine goes_ Try.func23 (by kernel_rfl) rfl #[.agg (bvals t0).toArray, .int .i64 l0_0.length] (by rfl) rfl rfl (by (try simp only [List.map_toArray, List.map_cons, List.map_nil]); first | done | rfl) ?_
      refine (level_closed.calls k t0 HLEN0.out l0_0.length hn q _ HQ.out).mono ?_
      rintro e w8 ⟨rfl, hb8⟩
      refine ⟨_, rfl, ?_⟩
      have HB8 := Aside0.mk (below_step HB7.out hb8)
      have HX8 := Aside0.mk (blk_below HX7.out hb8)
      have HT8 := Aside0.mk (show Box w8 gt t0 57 from blk_below HT7.out hb8)
      have HO8 := Aside0.mk (Kd.R_below HO7.out hb8)
      clear hb8
      refine hK.out _ _ ⟨(blk_cell HX8.out 0).trans rfl, HT8.out⟩ (fun hHeld => ?_)
      clear hK K
      refine norm_ (a' := ?_) ?_ ?_
      rotate_left
      · show Act.put _ (some 30) _ = _
        simp only [Act.put, List.setIfInBounds_toArray, List.set_cons_zero, List.set_cons_succ, i64_w, i32_w]
        rfl
      refine pure_ (i := 7) (N := some 31) (v := .agg (latC (.slice Ao l0_0.length co) q zerosI zerosI 0 0).toArray) (a' := ?_) #[true, true, true, true, true, true, true, true, false, false] rfl rfl (by kernel_rfl) (fun _ _ _ h => h) (yields_build (vs := #[(0, .slice Ao l0_0.length co), (1, .agg (bvals q).toArray)]) (by rfl) rfl (by simp only [List.map_toArray, List.map_cons, List.map_nil]; rfl) (level_New.built Ao _ co q HQL.out)) ?_ ?_
      rotate_left
      · simp only [Act.put, List.setIfInBounds_toArray, List.set_cons_zero, List.set_cons_succ, i64_w, i32_w]
        rfl
      refine one_ (i := 8) (N := some 32) #[true, true, true, true, true, true, true, true, true, false] rfl rfl (by kernel_rfl) (by decide) (fun K hK => ?_)
      refine box_step ?hg (N := 32) ?hd (cs := (latC (.slice Ao l0_0.length co) q zerosI zerosI 0 0).toArray) (t := 64) ?hr ?_; (case hd => rfl); (case hg => rfl); (case hr => first | (go_simp; done) | (go_simp; rfl))
      intro gb hg w9 hbox hb9
      have HB9 := Aside0.mk (below_step HB8.out hb9)
      have HX9 := Aside0.mk (blk_below HX8.out hb9)
      have HT9 := Aside0.mk (show Box w9 gt t0 57 from blk_below HT8.out hb9)
      have HO9 := Aside0.mk (Kd.R_below HO8.out hb9)
      have HL9 := Aside0.mk (show LBox w9 gb (.slice Ao l0_0.length co) q zerosI zerosI 0 0 64 from hbox)
      have HG9 := Aside0.mk (show w.heap.size ≤ gb ∧ ∀ c : Array Value, ∀ T, w8.heap[gb]? ≠ some (.cells c T (0, 0)) from ⟨by rw [hg]; exact HB8.out.size, by intro c T e_; have := blk_lt e_; omega⟩)
      clear hg hbox hb9
      refine hK.out _ _ ⟨(blk_cell HX9.out 0).trans rfl, HT9.out⟩ (fun hHeld => ?_)
      clear hK K
      refine norm_ (a' := ?_) ?_ ?_
      rotate_left
      · show Act.put _ (some 32) _ = _
        simp only [Act.put, List.setIfInBounds_toArray, List.set_cons_zero, List.set_cons_succ, i64_w, i32_w]
        rfl
      refine pure_ (i := 9) (N := some 7) (v := ?_) (a' := ?_) #[true, true, true, true, true, true, true, true, true, true] rfl rfl (by kernel_rfl) (fun _ _ _ h => h) (Or.inl ⟨by rfl, ?_⟩) ?_ ?_
      rotate_left
      · intro w'
        go_simp
        with_reducible rfl
      rotate_left
      · simp only [Act.put, List.setIfInBounds_toArray, List.set_cons_zero, List.set_cons_succ, i64_w, i32_w]
        rfl
      refine done_ (by kernel_rfl) ?_
      clear hHeld
      have HBL := Aside0.mk ((bvals_len q).trans HQL.out)
      have HR9 := Aside0.mk (HL9.out.range HQL.out)
      have hTT := HT.out
      obtain ⟨tw, htw⟩ : ∃ b, b = twistedI q l0_0.length := ⟨_, rfl⟩
      rw [← htw] at hTT
      have HTW := Aside0.mk htw
      have HV9 := Aside0.mk (Kd.R_bound (Kd.R_types HO9.out HL9.out (by decide)))
      clear htw
      cases tw with
      | true =>
        simp only [if_true, Option.some.injEq, Prod.mk.injEq] at hTT
        obtain ⟨rfl, rfl⟩ := hTT
        go_wp2_with (first | (refine wpList_load_mid rfl 57 (.tmp 35) rfl gb 1 rfl (bvals q) _ HR9.out Try.underlying57 rfl (by rw [HBL.out]; kernel_rfl) ?_) | (go_at_call 24; refine (level_twisted.calls q HQL.out l0_0.length hn _).mono ?_; rw [← HTW.out]; rintro e w10 ⟨rfl, hb10⟩))
        go_ret2
        exact ⟨.slice none 0 0, rfl, HN.out _, below_step HB9.out hb10⟩
      | false =>
        simp only [Bool.false_eq_true, if_false] at hTT
        obtain ⟨rf, hrf, hTT⟩ := Option.bind_eq_some_iff.1 hTT
        have HRF := Aside0.mk hrf
        have HTT := Aside0.mk hTT
        clear hrf hTT
        cases rf with
        | none =>
          have h := HTT.out
          simp only [level_New.told, Option.some.injEq, Prod.mk.injEq] at h
          obtain ⟨rfl, rfl⟩ := h
          go_wp2_with (first | (refine wpList_load_mid rfl 57 (.tmp 35) rfl gb 1 rfl (bvals q) _ HR9.out Try.underlying57 rfl (by rw [HBL.out]; kernel_rfl) ?_) | (go_at_call 24; refine (level_twisted.calls q HQL.out l0_0.length hn _).mono ?_; rw [← HTW.out]; rintro e w10 ⟨rfl, hb10⟩; have HB10 := Aside0.mk (below_step HB9.out hb10); have HL10 := Aside0.mk (show LBox w10 gb (.slice Ao l0_0.length co) q zerosI zerosI 0 0 64 from blk_below HL9.out hb10)) | (go_at_call 25; refine (level_Lattice_fill.calls gb (.slice Ao l0_0.length co) q HQL.out zerosI zerosI rfl rfl l0_0.length hn none w _ HB10.out HG9.out.1 HL10.out HRF.out).mono ?_; rintro e w11 ⟨rfl, hb11, hk11, hs11, hend⟩))
          go_ret2
          exact ⟨.slice none 0 0, rfl, HN.out _, hb11⟩
        | some x =>
          have h := HTT.out
          simp only [level_New.told, Option.some.injEq, Prod.mk.injEq] at h
          obtain ⟨rfl, rfl⟩ := h
          go_wp2_with (first | (refine wpList_load_mid rfl 57 (.tmp 35) rfl gb 1 rfl (bvals q) _ HR9.out Try.underlying57 rfl (by rw [HBL.out]; kernel_rfl) ?_) | (go_at_call 24; refine (level_twisted.calls q HQL.out l0_0.length hn _).mono ?_; rw [← HTW.out]; rintro e w10 ⟨rfl, hb10⟩; have HB10 := Aside0.mk (below_step HB9.out hb10); have HL10 := Aside0.mk (show LBox w10 gb (.slice Ao l0_0.length co) q zerosI zerosI 0 0 64 from blk_below HL9.out hb10); have HV10 := Aside0.mk (Kd.R_below HV9.out hb10)) | (go_at_call 25; refine (level_Lattice_fill.calls gb (.slice Ao l0_0.length co) q HQL.out zerosI zerosI rfl rfl l0_0.length hn (some x) w _ HB10.out HG9.out.1 HL10.out HRF.out).mono ?_; rintro e w11 ⟨rfl, hb11, hk11, hs11, hend⟩))
          go_ret2
          have hlens := level_New.fill_len _ _ _ _ _ HRF.out
          have hV11 := Kd.V_mono (Kd.R_V (base' := w.heap.size) (Kd.R_step HV10.out (fun k_ ho_ hk_ => hk11 k_ hk_ ho_.1.2))) (fun k_ hk_ => hk_.2.1)
          exact ⟨.slice (some ⟨gb, 0, none⟩) 1 1, rfl, level_New.held HG9.out.1 (hend x rfl) HQL.out hlens.1 hlens.2 hV11, hb11⟩

/-! ### auth_Find: function 15 -/
def auth_Find.l0 : Nat → ByteArray → List (S36) → Int → Int → Option (Int × Bool)
  | 0, _, _, _, _ => none
  | k + 1, x1, x8, x9, x10 => if x10 < x9 then (if 0 ≤ x10 then (if x10 < (x8.length : Int) then (if ((rd_T36 x8 x10).f0).toList = x1.toList then (some (x10, true)) else (auth_Find.l0 k x1 x8 x9 (wrap64 (x10 + 1)))) else (none)) else (none)) else (some (0, false))
def auth_Find.f (k : Nat) (l0 : List (S36)) (a1 : ByteArray) : Option (Int × Bool) := auth_Find.l0 k a1 l0 (l0.length : Int) 0
theorem auth_Find.mono_l : ∀ k, (∀ y0 y1 y2 y3, LeO (auth_Find.l0 k y0 y1 y2 y3) (auth_Find.l0 (k + 1) y0 y1 y2 y3))
  | 0 => fun _ _ _ _ r h => by simp [auth_Find.l0] at h
  | k + 1 => by
    have ih0 := auth_Find.mono_l k
    · intro y0 y1 y2 y3
      unfold auth_Find.l0
      repeat' first
      | (with_reducible exact ih0 _ _ _ _)
      | (with_reducible exact LeO.refl _)
      | (with_reducible exact LeO.none _)
      | (with_reducible refine LeO.ite ?_ ?_)
      | (with_reducible refine LeO.bind ?_ (fun _ => ?_))
      | exact ih0 _ _ _ _
      | exact LeO.none _
      | refine LeO.ite ?_ ?_
      | refine LeO.bind ?_ (fun _ => ?_)
theorem auth_Find.mono : ∀ a0 a1 k, LeO (auth_Find.f k a0 a1) (auth_Find.f (k + 1) a0 a1) := by
  intro a0 a1 k
  have ih0 := auth_Find.mono_l k
  unfold auth_Find.f
  repeat' first
      | (with_reducible exact ih0 _ _ _ _)
      | (with_reducible exact LeO.refl _)
      | (with_reducible exact LeO.none _)
      | (with_reducible refine LeO.ite ?_ ?_)
      | (with_reducible refine LeO.bind ?_ (fun _ => ?_))
      | exact ih0 _ _ _ _
      | exact LeO.none _
      | refine LeO.ite ?_ ?_
      | refine LeO.bind ?_ (fun _ => ?_)
set_option maxHeartbeats 8000000 in
set_option maxRecDepth 100000 in
theorem auth_Find.calls (k : Nat) (A0 : Option Addr) (c0 : Nat) (l0 : List (S36)) (a1 : ByteArray) (r1 : Int) (r2 : Bool) (w : World) (hr0 : Kd.C k36 w A0 l0.length l0) (hc0 : l0.length ≤ c0) (h : auth_Find.f k l0 a1 = some (r1, r2)) :
    Calls Try.prog 15 #[.slice A0 l0.length c0, .string a1] w fun e w' => e = .returned (.tuple #[.int .i64 r1, .bool r2]) ∧ Below w.heap.size w w' := by
  have hu36 := Try.underlying36
  have HR0 := Aside0.mk hr0
  have HC0 := Aside0.mk hc0
  clear hr0 hc0
  have HB := Aside0.mk (Below.refl w.heap.size w)
  have H : (auth_Find.l0 k a1 l0 (l0.length : Int) 0) = some (r1, r2) := h
  clear h
  have H' := Aside0.mk H
  clear H
  go_enter Try.func15, Try.ntmps15
  go_wp2
  go_loopg [10] k (fun kq v10 w' => ∃ (x10_1 : Int), v10 = .int .i64 x10_1 ∧ Aside0 (auth_Find.l0 kq a1 l0 (l0.length : Int) x10_1 = some (r1, r2)) ∧ Aside0 (kq ≤ k) ∧ Aside0 (Below w.heap.size w w'))
  case atStart => exact ⟨(0), (by first | rfl | (simp; done) | (simp [*]; done)), H', ⟨Nat.le_refl _⟩, ⟨by repeat (first | (with_reducible first | exact HB.out | apply below_alloc | apply pw_below_drewN | apply below_drew1) | exact HB.out)⟩⟩
  clear H'
  try clear c1
  try clear p2
  obtain ⟨x10_1, rfl, HA, HK1, HB⟩ := hrel
  rcases gk with _ | k1
  · exact absurd HA.out (by simp [auth_Find.l0])
  have H := HA.out
  clear HA
  simp only [auth_Find.l0] at H
  by_cases c3 : x10_1 < (l0.length : Int)
  case neg =>
    rw [if_neg c3] at H
    have c3b0 : decide (x10_1 < (l0.length : Int)) = false := decide_eq_false c3
    clear c3
    simp only [Option.some.injEq, Prod.mk.injEq] at H
    obtain ⟨rfl, rfl⟩ := H
    go_wp2
    go_ret2
    exact ⟨by first | rfl | (simp [errW_none, errW_some] <;> rfl) | (simp [*, errW_none, errW_some] <;> rfl), by repeat (first | (with_reducible first | exact HB.out | apply below_alloc | apply pw_below_drewN | apply below_drew1) | exact HB.out)⟩

  rw [if_pos c3] at H
  have c3b0 : decide (x10_1 < (l0.length : Int)) = true := decide_eq_true c3
  clear c3
  by_cases c4 : 0 ≤ x10_1
  case neg =>
    rw [if_neg c4] at H
    exact absurd H (by simp)
  rw [if_pos c4] at H
  have c4b0 : decide (0 ≤ x10_1) = true := decide_eq_true c4
  clear c4
  by_cases c5 : x10_1 < (l0.length : Int)
  case neg =>
    rw [if_neg c5] at H
    exact absurd H (by simp)
  rw [if_pos c5] at H
  have c5b0 : decide (x10_1 < (l0.length : Int)) = true := decide_eq_true c5
  clear c5
  by_cases c6 : ((rd_T36 l0 x10_1).f0).toList = a1.toList
  case neg =>
    rw [if_neg c6] at H
    have c6b0 : (((rd_T36 l0 x10_1).f0).toList == a1.toList) = false := beq_eq_false_iff_ne.mpr c6
    have c6b1 : (((rd_T36 l0 x10_1).f0).toList != a1.toList) = true := bne_iff_ne.mpr c6
    have H' := Aside0.mk H
    clear H
    have p140 : 0 ≤ (x10_1 : Int) := of_decide_eq_true (by first | (with_reducible assumption) | assumption)
    have q140 : x10_1 < (l0.length : Int) := of_decide_eq_true (by first | (with_reducible assumption) | assumption)
    obtain ⟨ad140, A140_1, c140_1, e140, hx140_0, hx140_1, hl140_1, hi140_1⟩ := at_T36 HR0.out x10_1 p140 q140
    cases e140
    replace hx140_0 := (HB.out.cell (World.block_lt_of_cell? w _ hx140_0)).trans hx140_0
    replace hx140_1 := (HB.out.cell (World.block_lt_of_cell? w _ hx140_1)).trans hx140_1
    have HR140_1 := Aside0.mk hi140_1
    have HC140_1 := Aside0.mk hl140_1
    clear hi140_1 hl140_1
    replace p140 := eq_true p140
    replace q140 := eq_true q140
    go_wp2_with (first | ((with_reducible refine gate_dst (N := 7) rfl ?_); refine box_event ?hg (N := 7) ?hd (cs := #[.string (⟨#[]⟩ : ByteArray), .slice none 0 0]) (t := 36) ?hr ?_; (case hd => rfl); (case hg => rfl); (case hr => first | (go_simp; done) | (go_simp; rfl)); intro gb141 hg w9 hbox hb; have n0_ := Aside0.mk (below_step (by repeat (first | (with_reducible first | exact HB.out | apply below_alloc | apply pw_below_drewN | apply below_drew1) | exact HB.out)) hb); have n1_ := Aside0.mk (hbox); have n2_ := Aside0.mk ((by rw [hg]; exact (below_size (by repeat (first | (with_reducible first | exact HB.out | apply below_alloc | apply pw_below_drewN | apply below_drew1) | exact HB.out))) : w.heap.size ≤ gb141)); have n3_ := Aside0.mk ((by rw [hg]; exact (below_size (by repeat (first | (with_reducible first | exact HB.out | apply below_alloc | apply pw_below_drewN | apply below_drew1) | exact HB.out))) : w.heap.size ≤ gb141)); clear HB; have HB := n0_; have BK141 := n1_; have GW141 := n2_; have GE141 := n3_; clear n0_ n1_ n2_ n3_; clear hb hbox hg; have hcz10_0 : w9.cell? ⟨gb141, 0, none⟩ = some (.string (⟨#[]⟩ : ByteArray)) := (blk_cell BK141.out 0).trans rfl; have hcz10_1 : w9.cell? ⟨gb141, 1, none⟩ = some (.slice none 0 0) := (blk_cell BK141.out 1).trans rfl; have hfz10_0 := blk_frozen BK141.out 0; have hfz10_1 := blk_frozen BK141.out 1))
    go_roundg k1
    case measure => have := HK1.out; omega
    case rel => exact ⟨(wrap64 (x10_1 + 1)), (by first | rfl | (simp; done) | (simp [*]; done)), H', ⟨by have := HK1.out; omega⟩, ⟨by repeat (first | (with_reducible first | exact HB.out | apply below_alloc | apply pw_below_drewN | apply below_drew1 | refine below_set ?_ GE141.out) | exact HB.out)⟩⟩
  rw [if_pos c6] at H
  have c6b0 : (((rd_T36 l0 x10_1).f0).toList == a1.toList) = true := beq_iff_eq.mpr c6
  have c6b1 : (((rd_T36 l0 x10_1).f0).toList != a1.toList) = false := bne_eq_false_iff_eq.mpr c6
  clear c6
  simp only [Option.some.injEq, Prod.mk.injEq] at H
  obtain ⟨rfl, rfl⟩ := H
  have p140 : 0 ≤ (x10_1 : Int) := of_decide_eq_true (by first | (with_reducible assumption) | assumption)
  have q140 : x10_1 < (l0.length : Int) := of_decide_eq_true (by first | (with_reducible assumption) | assumption)
  obtain ⟨ad140, A140_1, c140_1, e140, hx140_0, hx140_1, hl140_1, hi140_1⟩ := at_T36 HR0.out x10_1 p140 q140
  cases e140
  replace hx140_0 := (HB.out.cell (World.block_lt_of_cell? w _ hx140_0)).trans hx140_0
  replace hx140_1 := (HB.out.cell (World.block_lt_of_cell? w _ hx140_1)).trans hx140_1
  have HR140_1 := Aside0.mk hi140_1
  have HC140_1 := Aside0.mk hl140_1
  clear hi140_1 hl140_1
  replace p140 := eq_true p140
  replace q140 := eq_true q140
  go_wp2_with (first | ((with_reducible refine gate_dst (N := 7) rfl ?_); refine box_event ?hg (N := 7) ?hd (cs := #[.string (⟨#[]⟩ : ByteArray), .slice none 0 0]) (t := 36) ?hr ?_; (case hd => rfl); (case hg => rfl); (case hr => first | (go_simp; done) | (go_simp; rfl)); intro gb141 hg w7 hbox hb; have n0_ := Aside0.mk (below_step (by repeat (first | (with_reducible first | exact HB.out | apply below_alloc | apply pw_below_drewN | apply below_drew1) | exact HB.out)) hb); have n1_ := Aside0.mk (hbox); have n2_ := Aside0.mk ((by rw [hg]; exact (below_size (by repeat (first | (with_reducible first | exact HB.out | apply below_alloc | apply pw_below_drewN | apply below_drew1) | exact HB.out))) : w.heap.size ≤ gb141)); have n3_ := Aside0.mk ((by rw [hg]; exact (below_size (by repeat (first | (with_reducible first | exact HB.out | apply below_alloc | apply pw_below_drewN | apply below_drew1) | exact HB.out))) : w.heap.size ≤ gb141)); clear HB; have HB := n0_; have BK141 := n1_; have GW141 := n2_; have GE141 := n3_; clear n0_ n1_ n2_ n3_; clear hb hbox hg; have hcz8_0 : w7.cell? ⟨gb141, 0, none⟩ = some (.string (⟨#[]⟩ : ByteArray)) := (blk_cell BK141.out 0).trans rfl; have hcz8_1 : w7.cell? ⟨gb141, 1, none⟩ = some (.slice none 0 0) := (blk_cell BK141.out 1).trans rfl; have hfz8_0 := blk_frozen BK141.out 0; have hfz8_1 := blk_frozen BK141.out 1))
  go_ret2
  exact ⟨by first | rfl | (simp [errW_none, errW_some] <;> rfl) | (simp [*, errW_none, errW_some] <;> rfl), by repeat (first | (with_reducible first | exact HB.out | apply below_alloc | apply pw_below_drewN | apply below_drew1 | refine below_set ?_ GE141.out) | exact HB.out)⟩
/-! ### level_Lattice_Size: function 18 -/
def level_Lattice_Size.f (l0 : List Lat) : Option (Int) := match l0 with | [] => none | L :: _ => some ((L.names.length : Int))
theorem level_Lattice_Size.calls (A0 : Option Addr) (l0 : List Lat) (r : Int) (w : World) (hr0 : Kd.C klat w A0 l0.length l0) (h : level_Lattice_Size.f l0 = some r) :
    Calls Try.prog 18 #[.pointer A0] w fun e w' => e = .returned (.int .i64 r) ∧ Drawn0 w w' := by
  cases l0 with
  | nil => simp [level_Lattice_Size.f] at h
  | cons L t =>
    simp only [level_Lattice_Size.f, Option.some.injEq] at h
    subst h
    obtain ⟨ad, An, cn, rfl, hx0, hl, hC, hxl, hxj, hxm, hx1, hx2⟩ := lat_get rfl hr0
    clear hr0 hC hxl hxj hxm hl
    go_enter Try.func18, Try.ntmps18
    go_wp2
    go_ret
    exact ⟨rfl, Drawn0.refl _⟩

/-! ### level_Lattice_Is: function 20 -/
def level_Lattice_Is.f (l0 : List Lat) (a1 : Int) : Option (Bool) := match l0 with | [] => none | L :: _ => some (L.is a1)
theorem level_Lattice_Is.calls (A0 : Option Addr) (l0 : List Lat) (a1 : Int) (r : Bool) (w : World) (hr0 : Kd.C klat w A0 l0.length l0) (h : level_Lattice_Is.f l0 a1 = some r) :
    Calls Try.prog 20 #[.pointer A0, .int .i64 a1] w fun e w' => e = .returned (.bool r) ∧ Drawn0 w w' := by
  cases l0 with
  | nil => simp [level_Lattice_Is.f] at h
  | cons L t =>
    simp only [level_Lattice_Is.f, Option.some.injEq, Lat.is] at h
    by_cases h0 : 0 ≤ a1
    · have hd : decide (0 ≤ a1) = true := decide_eq_true h0
      rw [hd, Bool.true_and] at h
      go_enter Try.func20, Try.ntmps20
      go_wp2_with (go_at_call 18; refine (level_Lattice_Size.calls A0 (L :: t) (L.names.length : Int) _ hr0 rfl).mono ?_; rintro e w' ⟨rfl, nd, rfl⟩)
      go_ret
      exact ⟨by rw [← h]; rfl, nd, rfl⟩
    have hd : decide (0 ≤ a1) = false := decide_eq_false h0
    rw [hd, Bool.false_and] at h
    subst h
    go_enter Try.func20, Try.ntmps20
    go_wp2
    go_ret
    exact ⟨rfl, Drawn0.refl _⟩

/-! ### auth_rising: function 27 -/
def auth_rising.l0 : Nat → List (Lat) → List Int → List Int → Int → Int → Option (Bool)
  | 0, _, _, _, _, _ => none
  | k + 1, x0, x1, x7, x8, x9 => if x9 < x8 then (if 0 ≤ x9 then (if x9 < (x7.length : Int) then ((level_Lattice_Is.f x0 (rd x7 x9)).bind fun t143 => (if t143 = true then (if x9 > 0 then (if 0 ≤ (wrap64 (x9 - 1)) then (if (wrap64 (x9 - 1)) < (x1.length : Int) then (if (rd x7 x9) ≤ (rd x1 (wrap64 (x9 - 1))) then (some false) else (auth_rising.l0 k x0 x1 x7 x8 (wrap64 (x9 + 1)))) else (none)) else (none)) else (auth_rising.l0 k x0 x1 x7 x8 (wrap64 (x9 + 1)))) else (some false))) else (none)) else (none)) else (some true)
def auth_rising.f (k : Nat) (l0 : List (Lat)) (l1 : List Int) : Option (Bool) := auth_rising.l0 k l0 l1 l1 (l1.length : Int) 0
theorem auth_rising.mono_l : ∀ k, (∀ y0 y1 y2 y3 y4, LeO (auth_rising.l0 k y0 y1 y2 y3 y4) (auth_rising.l0 (k + 1) y0 y1 y2 y3 y4))
  | 0 => fun _ _ _ _ _ r h => by simp [auth_rising.l0] at h
  | k + 1 => by
    have ih0 := auth_rising.mono_l k
    · intro y0 y1 y2 y3 y4
      unfold auth_rising.l0
      repeat' first
      | (with_reducible exact ih0 _ _ _ _ _)
      | (with_reducible exact LeO.refl _)
      | (with_reducible exact LeO.none _)
      | (with_reducible refine LeO.ite ?_ ?_)
      | (with_reducible refine LeO.bind ?_ (fun _ => ?_))
      | exact ih0 _ _ _ _ _
      | exact LeO.none _
      | refine LeO.ite ?_ ?_
      | refine LeO.bind ?_ (fun _ => ?_)
theorem auth_rising.mono : ∀ a0 a1 k, LeO (auth_rising.f k a0 a1) (auth_rising.f (k + 1) a0 a1) := by
  intro a0 a1 k
  have ih0 := auth_rising.mono_l k
  unfold auth_rising.f
  repeat' first
      | (with_reducible exact ih0 _ _ _ _ _)
      | (with_reducible exact LeO.refl _)
      | (with_reducible exact LeO.none _)
      | (with_reducible refine LeO.ite ?_ ?_)
      | (with_reducible refine LeO.bind ?_ (fun _ => ?_))
      | exact ih0 _ _ _ _ _
      | exact LeO.none _
      | refine LeO.ite ?_ ?_
      | refine LeO.bind ?_ (fun _ => ?_)
set_option maxHeartbeats 8000000 in
set_option maxRecDepth 100000 in
theorem auth_rising.calls (k : Nat) (A0 : Option Addr) (l0 : List (Lat)) (A1 : Option Addr) (c1 : Nat) (l1 : List Int) (r : Bool) (w : World) (hr0 : Kd.C klat w A0 l0.length l0) (hr1 : Kd.C (Kd.int .i64) w A1 l1.length l1) (hc1 : l1.length ≤ c1) (h : auth_rising.f k l0 l1 = some r) :
    Calls Try.prog 27 #[.pointer A0, .slice A1 l1.length c1] w fun e w' => e = .returned (.bool r) ∧ Drawn0 w w' := by
  have HR0 := Aside0.mk hr0
  clear hr0
  have HR1 := Aside0.mk hr1
  have HC1 := Aside0.mk hc1
  clear hr1 hc1
  have H : (auth_rising.l0 k l0 l1 l1 (l1.length : Int) 0) = some r := h
  clear h
  have H' := Aside0.mk H
  clear H
  go_enter Try.func27, Try.ntmps27
  go_wp2
  go_loopg [9] k (fun kq v9 w' => ∃ (x9_1 : Int), v9 = .int .i64 x9_1 ∧ Aside0 (auth_rising.l0 kq l0 l1 l1 (l1.length : Int) x9_1 = some r) ∧ Aside0 (kq ≤ k) ∧ Drawn0 w w')
  case atStart => exact ⟨(0), (by first | rfl | (simp; done) | (simp [*]; done)), H', ⟨Nat.le_refl _⟩, by repeat (first | exact Drawn0.refl _ | apply Drawn0.step)⟩
  clear H'
  try clear c1
  try clear c2
  try clear p2
  obtain ⟨x9_1, rfl, HA, HK1, ⟨m1, rfl⟩⟩ := hrel
  rcases gk with _ | k1
  · exact absurd HA.out (by simp [auth_rising.l0])
  have H := HA.out
  clear HA
  simp only [auth_rising.l0] at H
  by_cases c3 : x9_1 < (l1.length : Int)
  case neg =>
    rw [if_neg c3] at H
    have c3b0 : decide (x9_1 < (l1.length : Int)) = false := decide_eq_false c3
    clear c3
    obtain rfl := Option.some.inj H
    go_wp2
    go_ret
    exact ⟨by first | rfl | (simp; done) | (simp [*]; done), by repeat (first | exact Drawn0.refl _ | apply Drawn0.step)⟩

  rw [if_pos c3] at H
  have c3b0 : decide (x9_1 < (l1.length : Int)) = true := decide_eq_true c3
  clear c3
  by_cases c4 : 0 ≤ x9_1
  case neg =>
    rw [if_neg c4] at H
    exact absurd H (by simp)
  rw [if_pos c4] at H
  have c4b0 : decide (0 ≤ x9_1) = true := decide_eq_true c4
  clear c4
  by_cases c5 : x9_1 < (l1.length : Int)
  case neg =>
    rw [if_neg c5] at H
    exact absurd H (by simp)
  rw [if_pos c5] at H
  have c5b0 : decide (x9_1 < (l1.length : Int)) = true := decide_eq_true c5
  clear c5
  replace H := Option.bind_eq_some_iff.mp H
  obtain ⟨t143, A60, H⟩ := H
  replace H : (if t143 = true then (if x9_1 > 0 then (if 0 ≤ (wrap64 (x9_1 - 1)) then (if (wrap64 (x9_1 - 1)) < (l1.length : Int) then (if (rd l1 x9_1) ≤ (rd l1 (wrap64 (x9_1 - 1))) then (some false) else (auth_rising.l0 k1 l0 l1 l1 (l1.length : Int) (wrap64 (x9_1 + 1)))) else (none)) else (none)) else (auth_rising.l0 k1 l0 l1 l1 (l1.length : Int) (wrap64 (x9_1 + 1)))) else (some false)) = some r := H
  have A6 := Aside0.mk A60
  clear A60
  by_cases c7 : t143 = true
  case neg =>
    replace c7 := Bool.eq_false_iff.mpr c7
    subst c7
    have H1 : (some false) = some r := by rw [if_neg (show ¬ (false = true) by decide)] at H; exact H
    clear H
    have H := H1
    clear H1
    obtain rfl := Option.some.inj H
    have p142 : 0 ≤ (x9_1 : Int) := of_decide_eq_true (by first | (with_reducible assumption) | assumption)
    have q142 : x9_1 < (l1.length : Int) := of_decide_eq_true (by first | (with_reducible assumption) | assumption)
    obtain ⟨ad142, e142, hx142_0⟩ := Kd.at_int HR1.out x9_1 p142 q142
    cases e142
    replace p142 := eq_true p142
    replace q142 := eq_true q142
    go_wp2_with (first | ((with_reducible refine gate_callee (f := 20) rfl ?_); refine goesL_ (some 16) rfl rfl Try.func20 (by kernel_rfl) rfl #[.pointer A0, .int .i64 (rd l1 x9_1)] rfl (by (try simp only [List.map_toArray, List.map_cons, List.map_nil]); first | done | rfl | (simp only [List.length_drop, List.length_take]; rfl)) ?_; (with_reducible refine (level_Lattice_Is.calls _ l0 (rd l1 x9_1) false _ ?side1 A6.out).mono ?_); (case side1 => repeat (first | exact HR0.out | (with_reducible refine Kd.C_alloc ?_ _) | (with_reducible refine Kd.C_drewN ?_ _) | (with_reducible refine Kd.C_drew ?_))); rintro e w' ⟨rfl, ⟨nd, rfl⟩⟩; refine ⟨_, rfl, ?_⟩))
    go_ret
    exact ⟨by first | rfl | (simp; done) | (simp [*]; done), by repeat (first | exact Drawn0.refl _ | apply Drawn0.step)⟩
  subst c7
  have H1 : (if x9_1 > 0 then (if 0 ≤ (wrap64 (x9_1 - 1)) then (if (wrap64 (x9_1 - 1)) < (l1.length : Int) then (if (rd l1 x9_1) ≤ (rd l1 (wrap64 (x9_1 - 1))) then (some false) else (auth_rising.l0 k1 l0 l1 l1 (l1.length : Int) (wrap64 (x9_1 + 1)))) else (none)) else (none)) else (auth_rising.l0 k1 l0 l1 l1 (l1.length : Int) (wrap64 (x9_1 + 1)))) = some r := by rw [if_pos rfl] at H; exact H
  clear H
  have H := H1
  clear H1
  by_cases c8 : x9_1 > 0
  case neg =>
    rw [if_neg c8] at H
    have c8b0 : decide (0 < x9_1) = false := decide_eq_false c8
    clear c8
    have H' := Aside0.mk H
    clear H
    have p142 : 0 ≤ (x9_1 : Int) := of_decide_eq_true (by first | (with_reducible assumption) | assumption)
    have q142 : x9_1 < (l1.length : Int) := of_decide_eq_true (by first | (with_reducible assumption) | assumption)
    obtain ⟨ad142, e142, hx142_0⟩ := Kd.at_int HR1.out x9_1 p142 q142
    cases e142
    replace p142 := eq_true p142
    replace q142 := eq_true q142
    go_wp2_with (first | ((with_reducible refine gate_callee (f := 20) rfl ?_); refine goesL_ (some 16) rfl rfl Try.func20 (by kernel_rfl) rfl #[.pointer A0, .int .i64 (rd l1 x9_1)] rfl (by (try simp only [List.map_toArray, List.map_cons, List.map_nil]); first | done | rfl | (simp only [List.length_drop, List.length_take]; rfl)) ?_; (with_reducible refine (level_Lattice_Is.calls _ l0 (rd l1 x9_1) true _ ?side1 A6.out).mono ?_); (case side1 => repeat (first | exact HR0.out | (with_reducible refine Kd.C_alloc ?_ _) | (with_reducible refine Kd.C_drewN ?_ _) | (with_reducible refine Kd.C_drew ?_))); rintro e w' ⟨rfl, ⟨nd, rfl⟩⟩; refine ⟨_, rfl, ?_⟩))
    go_roundg k1
    case measure => have := HK1.out; omega
    case rel => exact ⟨(wrap64 (x9_1 + 1)), (by first | rfl | (simp; done) | (simp [*]; done)), H', ⟨by have := HK1.out; omega⟩, by repeat (first | exact Drawn0.refl _ | apply Drawn0.step)⟩
  rw [if_pos c8] at H
  have c8b0 : decide (0 < x9_1) = true := decide_eq_true c8
  clear c8
  obtain ⟨ji9, hji9⟩ : ∃ j_ : Int, (wrap64 (x9_1 - 1)) = j_ := ⟨_, rfl⟩
  replace H : (if 0 ≤ (ji9) then (if (ji9) < (l1.length : Int) then (if (rd l1 x9_1) ≤ (rd l1 (ji9)) then (some false) else (auth_rising.l0 k1 l0 l1 l1 (l1.length : Int) (wrap64 (x9_1 + 1)))) else (none)) else (none)) = some r := by first | (rw [hji9] at H; exact H) | (simp only [hji9] at H ⊢; exact H)
  (try rw [hji9] at A6)
  have hji9w : (IntKind.i64.wrap (x9_1 - 1)) = ji9 := (i64_w _).trans hji9
  by_cases c10 : 0 ≤ (ji9)
  case neg =>
    rw [if_neg c10] at H
    exact absurd H (by simp)
  rw [if_pos c10] at H
  have c10b0 : decide (0 ≤ (ji9)) = true := decide_eq_true c10
  clear c10
  by_cases c11 : (ji9) < (l1.length : Int)
  case neg =>
    rw [if_neg c11] at H
    exact absurd H (by simp)
  rw [if_pos c11] at H
  have c11b0 : decide ((ji9) < (l1.length : Int)) = true := decide_eq_true c11
  clear c11
  by_cases c12 : (rd l1 x9_1) ≤ (rd l1 (ji9))
  · rw [if_pos c12] at H
    have c12b0 : decide ((rd l1 x9_1) ≤ (rd l1 (ji9))) = true := decide_eq_true c12
    clear c12
    obtain rfl := Option.some.inj H
    have p142 : 0 ≤ (x9_1 : Int) := of_decide_eq_true (by first | (with_reducible assumption) | assumption)
    have q142 : x9_1 < (l1.length : Int) := of_decide_eq_true (by first | (with_reducible assumption) | assumption)
    obtain ⟨ad142, e142, hx142_0⟩ := Kd.at_int HR1.out x9_1 p142 q142
    cases e142
    replace p142 := eq_true p142
    replace q142 := eq_true q142
    go_wp2_with (first | ((with_reducible refine gate_callee (f := 20) rfl ?_); refine goesL_ (some 16) rfl rfl Try.func20 (by kernel_rfl) rfl #[.pointer A0, .int .i64 (rd l1 x9_1)] rfl (by (try simp only [List.map_toArray, List.map_cons, List.map_nil]); first | done | rfl | (simp only [List.length_drop, List.length_take]; rfl)) ?_; (with_reducible refine (level_Lattice_Is.calls _ l0 (rd l1 x9_1) true _ ?side1 A6.out).mono ?_); (case side1 => repeat (first | exact HR0.out | (with_reducible refine Kd.C_alloc ?_ _) | (with_reducible refine Kd.C_drewN ?_ _) | (with_reducible refine Kd.C_drew ?_))); rintro e w' ⟨rfl, ⟨nd, rfl⟩⟩; refine ⟨_, rfl, ?_⟩; have p144 : 0 ≤ ((ji9) : Int) := of_decide_eq_true (by first | (with_reducible assumption) | assumption); have q144 : (ji9) < (l1.length : Int) := of_decide_eq_true (by first | (with_reducible assumption) | assumption); obtain ⟨ad144, e144, hx144_0⟩ := Kd.at_int HR1.out (ji9) p144 q144; obtain rfl : ad142 = ad144 := (by injection e144); replace p144 := eq_true p144; replace q144 := eq_true q144))
    go_ret
    exact ⟨by first | rfl | (simp; done) | (simp only [← hji9] <;> (first | rfl | simp)) | (simp [*]; done), by repeat (first | exact Drawn0.refl _ | apply Drawn0.step)⟩
  rw [if_neg c12] at H
  have c12b0 : decide ((rd l1 x9_1) ≤ (rd l1 (ji9))) = false := decide_eq_false c12
  clear c12
  have H' := Aside0.mk H
  clear H
  have p142 : 0 ≤ (x9_1 : Int) := of_decide_eq_true (by first | (with_reducible assumption) | assumption)
  have q142 : x9_1 < (l1.length : Int) := of_decide_eq_true (by first | (with_reducible assumption) | assumption)
  obtain ⟨ad142, e142, hx142_0⟩ := Kd.at_int HR1.out x9_1 p142 q142
  cases e142
  replace p142 := eq_true p142
  replace q142 := eq_true q142
  go_wp2_with (first | ((with_reducible refine gate_callee (f := 20) rfl ?_); refine goesL_ (some 16) rfl rfl Try.func20 (by kernel_rfl) rfl #[.pointer A0, .int .i64 (rd l1 x9_1)] rfl (by (try simp only [List.map_toArray, List.map_cons, List.map_nil]); first | done | rfl | (simp only [List.length_drop, List.length_take]; rfl)) ?_; (with_reducible refine (level_Lattice_Is.calls _ l0 (rd l1 x9_1) true _ ?side1 A6.out).mono ?_); (case side1 => repeat (first | exact HR0.out | (with_reducible refine Kd.C_alloc ?_ _) | (with_reducible refine Kd.C_drewN ?_ _) | (with_reducible refine Kd.C_drew ?_))); rintro e w' ⟨rfl, ⟨nd, rfl⟩⟩; refine ⟨_, rfl, ?_⟩; have p144 : 0 ≤ ((ji9) : Int) := of_decide_eq_true (by first | (with_reducible assumption) | assumption); have q144 : (ji9) < (l1.length : Int) := of_decide_eq_true (by first | (with_reducible assumption) | assumption); obtain ⟨ad144, e144, hx144_0⟩ := Kd.at_int HR1.out (ji9) p144 q144; obtain rfl : ad142 = ad144 := (by injection e144); replace p144 := eq_true p144; replace q144 := eq_true q144))
  go_roundg k1
  case measure => have := HK1.out; omega
  case rel => exact ⟨(wrap64 (x9_1 + 1)), (by first | rfl | (simp; done) | (simp [*]; done)), H', ⟨by have := HK1.out; omega⟩, by repeat (first | exact Drawn0.refl _ | apply Drawn0.step)⟩
end Go.Proofs.Yteeodnnabogheaa.X
