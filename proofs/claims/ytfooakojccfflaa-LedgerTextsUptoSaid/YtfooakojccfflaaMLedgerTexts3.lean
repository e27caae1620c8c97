/- The row LedgerTexts, part 3 of 6: texts written for this work, merged by a program of the session. No condition. -/
import Derived.Laws.AppendOwn
import Derived.Lib.Bytealg
import Derived.Lib.Join
import Derived.Lib.Repeat
import Derived.Lib.OthersKept
import Derived.Lib.Index
import Derived.Lib.IndexLaws
import Derived.KernelRfl
import Derived.Test.YtfooakojccfflaaProg
import Derived.Test.YtfooakojccfflaaMLedgerTexts2
set_option linter.unusedVariables false
set_option linter.unusedSimpArgs false
set_option linter.unusedSectionVars false
section
namespace Go.Ab
abbrev Orc := Nat → List TV → Option Ans
def Says (R : Orc) (qs : List (Nat × List TV × Ans)) : Prop := ∀ q ∈ qs, R q.1 q.2.1 = some q.2.2
structure FacR {α : Type} (F : Orc → Nat → (γ : Type) → (α → Option γ) → Option γ) : Prop where
  out : ∀ (R : Orc) (k : Nat) (β : Type) (K : α → Option β) (r : β), F R k β K = some r → ∃ qs y, Says R qs ∧ K y = some r ∧ ∀ (R' : Orc) (k' : Nat) (γ : Type) (K' : α → Option γ), k ≤ k' → Says R' qs → F R' k' γ K' = K' y
theorem Says.left {R : Orc} {a b : List (Nat × List TV × Ans)} (h : Says R (a ++ b)) : Says R a := fun q hq => h q (List.mem_append_left _ hq)
theorem Says.right {R : Orc} {a b : List (Nat × List TV × Ans)} (h : Says R (a ++ b)) : Says R b := fun q hq => h q (List.mem_append_right _ hq)
theorem Says.append {R : Orc} {a b : List (Nat × List TV × Ans)} (h : Says R a) (h' : Says R b) : Says R (a ++ b) := fun q hq => (List.mem_append.1 hq).elim (h q) (h' q)
theorem Says.nil {R : Orc} : Says R [] := fun _ hq => by cases hq
section
variable {α δ : Type} {F F' : Orc → Nat → (γ : Type) → (α → Option γ) → Option γ}
theorem FacR.pure (y : α) (e : ∀ R k γ K, F R k γ K = K y) : FacR F := ⟨fun R k β K r h => ⟨[], y, Says.nil, (e R k β K).symm.trans h, fun R' k' γ K' _ _ => e R' k' γ K'⟩⟩
theorem FacR.fail (e : ∀ R k γ K, F R k γ K = none) : FacR F := ⟨fun R k β K r h => by rw [e] at h; cases h⟩
theorem FacR.ofFac {F0 : (γ : Type) → (α → Option γ) → Option γ} (f : Fac F0) (e : ∀ R k γ K, F R k γ K = F0 γ K) : FacR F := ⟨fun R k β K r h => by
  rw [e] at h
  obtain ⟨y, e1, f1⟩ := f.out _ _ _ h
  exact ⟨[], y, Says.nil, e1, fun R' k' γ K' _ _ => (e R' k' γ K').trans (f1 γ K')⟩⟩
theorem FacR.bind {G : Orc → Nat → (γ : Type) → (δ → Option γ) → Option γ} {H : δ → Orc → Nat → (γ : Type) → (α → Option γ) → Option γ} (g : FacR G) (h : ∀ x, FacR (H x)) (e : ∀ R k γ K, F R k γ K = G R k γ (fun x => H x R k γ K)) : FacR F := ⟨fun R k β K r hr => by
  rw [e] at hr
  obtain ⟨q1, x, s1, e1, f1⟩ := g.out _ _ _ _ _ hr
  obtain ⟨q2, y, s2, e2, f2⟩ := (h x).out _ _ _ _ _ e1
  exact ⟨q1 ++ q2, y, s1.append s2, e2, fun R' k' γ K' hk hs => by rw [e, f1 R' k' _ _ hk hs.left]; exact f2 R' k' γ K' hk hs.right⟩⟩
theorem FacR.when {c : Bool} (f : FacR F') (e : ∀ R k γ K, F R k γ K = Ab.when c (F' R k γ K)) : FacR F := ⟨fun R k β K r h => by
  rw [e] at h
  obtain ⟨hc, h⟩ := when_some h
  obtain ⟨q, y, s1, e1, f1⟩ := f.out _ _ _ _ _ h
  exact ⟨q, y, s1, e1, fun R' k' γ K' hk hs => by rw [e, hc]; exact f1 R' k' γ K' hk hs⟩⟩
theorem FacR.of (f : FacR F') (e : ∀ R k γ K, F R k γ K = F' R k γ K) : FacR F := by
  have : F = F' := by funext R k γ K; exact e R k γ K
  rw [this]; exact f
end
theorem query_facR (f : Nat) (ts : List TV) : FacR (fun R _ γ (K : Ans → Option γ) => match R f ts with | none => none | some a => K a) := ⟨fun R k β K r h => by
  revert h
  cases hR : R f ts with
  | none => intro h; cases h
  | some a =>
    intro h
    refine ⟨[(f, ts, a)], a, fun q hq => ?_, h, fun R' k' γ K' _ hs => ?_⟩
    · rw [List.mem_singleton.1 hq]; exact hR
    · rw [hs (f, ts, a) (List.mem_singleton.2 rfl)]⟩
theorem stepI_facR (key : Nat) (st : St) (i : AI) : FacR (fun R _ γ (K : LV × St → Option γ) => stepI R key st i fun v s => K (v, s)) := by
  by_cases hc : ∃ f args outs, i = .call f args outs
  · obtain ⟨f, args, outs, rfl⟩ := hc
    refine .bind (.ofFac (evs_fac st (args.map Prod.fst)) fun _ _ _ _ => rfl) (H := fun vs R _ γ K => gives st.heap (vs.zip (args.map Prod.snd)) fun gs h => fills h gs fun ts ks =>
      when (nodupB ks && ts.all TV.lends) (match R f ts with
        | none => none
        | some r => when (formed outs ks r) (backs h ks r.2 { st with heap := h } fun st => takes key outs r.1 st fun l st => K (one l, st)))) (fun vs => ?_) (fun R k γ K => stepI_call R key st f args outs _)
    refine .bind (.ofFac (gives_fac (vs.zip (args.map Prod.snd)) st.heap) fun _ _ _ _ => rfl) (H := fun gs R _ γ K => fills gs.2 gs.1 fun ts ks =>
      when (nodupB ks && ts.all TV.lends) (match R f ts with
        | none => none
        | some r => when (formed outs ks r) (backs gs.2 ks r.2 { st with heap := gs.2 } fun st => takes key outs r.1 st fun l st => K (one l, st)))) (fun gs => ?_) (fun R k γ K => rfl)
    refine .bind (.ofFac (fills_fac gs.2 gs.1) fun _ _ _ _ => rfl) (H := fun ts R _ γ K =>
      when (nodupB ts.2 && ts.1.all TV.lends) (match R f ts.1 with
        | none => none
        | some r => when (formed outs ts.2 r) (backs gs.2 ts.2 r.2 { st with heap := gs.2 } fun st => takes key outs r.1 st fun l st => K (one l, st)))) (fun ts => ?_) (fun R k γ K => rfl)
    refine .when (c := nodupB ts.2 && ts.1.all TV.lends) ?_ (fun R k γ K => rfl)
    refine .bind (query_facR f ts.1) (H := fun r _ _ γ K => when (formed outs ts.2 r) (backs gs.2 ts.2 r.2 { st with heap := gs.2 } fun st => takes key outs r.1 st fun l st => K (one l, st))) (fun r => ?_) (fun R k γ K => rfl)
    refine .when (c := formed outs ts.2 r) ?_ (fun R k γ K => rfl)
    refine .bind (.ofFac (backs_fac gs.2 ts.2 r.2 { st with heap := gs.2 }) fun _ _ _ _ => rfl) (H := fun st' _ _ γ K => takes key outs r.1 st' fun l st => K (one l, st)) (fun st' => ?_) (fun R k γ K => rfl)
    exact .bind (.ofFac (takes_fac2 key outs r.1 st') fun _ _ _ _ => rfl) (H := fun l _ _ γ K => K (one l.1, l.2)) (fun l => .pure (one l.1, l.2) fun _ _ _ _ => rfl) (fun R k γ K => rfl)
  · by_cases hv : ∃ x args, i = .callV x args
    · obtain ⟨x, args, rfl⟩ := hv
      refine .bind (.ofFac (ev_fac st x) fun _ _ _ _ => rfl) (H := fun v R _ γ K => match v with
        | .fz e => when e.isFn (evs st args fun vs => frzs (frz 5) st.heap vs fun es h => match R e.fnN ((es ++ e.fnC).map .fz) with
          | none => none
          | some r => when (formed [.fz] [] r) (backs h [] r.2 { st with heap := h } fun st => takes key [.fz] r.1 st fun l st => K (one l, st)))
        | _ => none) (fun v => ?_) (fun R k γ K => stepI_callV R key st x args _)
      cases v with
      | fz e =>
        refine .when (c := e.isFn) (F' := fun R _ γ K => evs st args fun vs => frzs (frz 5) st.heap vs fun es h => match R e.fnN ((es ++ e.fnC).map .fz) with
          | none => none
          | some r => when (formed [.fz] [] r) (backs h [] r.2 { st with heap := h } fun st => takes key [.fz] r.1 st fun l st => K (one l, st))) ?_ (fun R k γ K => rfl)
        refine .bind (.ofFac (evs_fac st args) fun _ _ _ _ => rfl) (H := fun vs R _ γ K => frzs (frz 5) st.heap vs fun es h => match R e.fnN ((es ++ e.fnC).map .fz) with
          | none => none
          | some r => when (formed [.fz] [] r) (backs h [] r.2 { st with heap := h } fun st => takes key [.fz] r.1 st fun l st => K (one l, st))) (fun vs => ?_) (fun R k γ K => rfl)
        refine .bind (.ofFac (frzs_fac (f := fun γ => frz 5) (frz_fac 5) vs st.heap) fun _ _ _ _ => rfl) (H := fun p R _ γ K => match R e.fnN ((p.1 ++ e.fnC).map .fz) with
          | none => none
          | some r => when (formed [.fz] [] r) (backs p.2 [] r.2 { st with heap := p.2 } fun st => takes key [.fz] r.1 st fun l st => K (one l, st))) (fun p => ?_) (fun R k γ K => rfl)
        refine .bind (query_facR e.fnN ((p.1 ++ e.fnC).map .fz)) (H := fun r _ _ γ K => when (formed [.fz] [] r) (backs p.2 [] r.2 { st with heap := p.2 } fun st => takes key [.fz] r.1 st fun l st => K (one l, st))) (fun r => ?_) (fun R k γ K => rfl)
        refine .when (c := formed [.fz] [] r) (F' := fun _ _ γ K => backs p.2 [] r.2 { st with heap := p.2 } fun st => takes key [.fz] r.1 st fun l st => K (one l, st)) ?_ (fun R k γ K => rfl)
        refine .bind (.ofFac (backs_fac p.2 [] r.2 { st with heap := p.2 }) fun _ _ _ _ => rfl) (H := fun st' _ _ γ K => takes key [.fz] r.1 st' fun l st => K (one l, st)) (fun st' => ?_) (fun R k γ K => rfl)
        exact .bind (.ofFac (takes_fac2 key [.fz] r.1 st') fun _ _ _ _ => rfl) (H := fun l _ _ γ K => K (one l.1, l.2)) (fun l => .pure (one l.1, l.2) fun _ _ _ _ => rfl) (fun R k γ K => rfl)
      | _ => exact .fail fun _ _ _ _ => rfl
    · refine .ofFac (stepI_fac (fun _ _ => none) key st i) fun R k γ K => ?_
      cases i with
      | call f args outs => exact absurd ⟨f, args, outs, rfl⟩ hc
      | callV x args => exact absurd ⟨x, args, rfl⟩ hv
      | _ => rfl
theorem stepO_facR (o : AOper) (st : St) : FacR (fun R _ γ (K : St → Option γ) => stepO R o st K) := by
  have go : FacR (fun R _ γ (K : St → Option γ) => stepI R (4 * o.dst.getD 0) st o.ins fun v st' => K (putD st' o.dst v)) :=
    .bind (stepI_facR (4 * o.dst.getD 0) st o.ins) (fun p => .pure (putD p.2 o.dst p.1) fun _ _ _ _ => rfl) (fun R k γ K => rfl)
  have no : FacR (fun (_ : Orc) _ γ (K : St → Option γ) => K (putD st o.dst (.tup []))) := .pure _ fun _ _ _ _ => rfl
  unfold stepO
  rcases o.guard with _ | ⟨t, want⟩
  · exact go
  · dsimp only
    cases aget t st.env with
    | none => exact .fail fun _ _ _ _ => rfl
    | some v =>
      have gb : FacR (fun R _ γ (K : St → Option γ) => getB v fun b => match want with
          | true => (match b with | true => stepI R (4 * o.dst.getD 0) st o.ins fun v st' => K (putD st' o.dst v) | false => K (putD st o.dst (.tup [])))
          | false => (match b with | true => K (putD st o.dst (.tup [])) | false => stepI R (4 * o.dst.getD 0) st o.ins fun v st' => K (putD st' o.dst v))) := by
        refine .bind (.ofFac (getB_fac v) fun _ _ _ _ => rfl) (fun b => ?_) (fun R k γ K => rfl)
        cases want <;> cases b <;> first | exact go | exact no
      cases v with
      | tup l => cases l with
        | nil => exact no
        | cons => exact gb
      | _ => exact gb
theorem execOps_facR : ∀ (ops : List AOper) (st : St), FacR (fun R _ γ (K : St → Option γ) => execOps R ops st K)
  | [], st => .pure st fun _ _ _ _ => rfl
  | o :: r, st => .bind (stepO_facR o st) (fun st' => execOps_facR r st') (fun R k γ K => rfl)
theorem drawO_facR (o : AOper) (st : St) : FacR (fun R _ γ (K : St × TI → Option γ) => drawO R o st fun s t => K (s, t)) := by
  have go : ∀ g, FacR (fun R _ γ (K : St × TI → Option γ) => when (namesH (touch st o.ins.tmps o.dst) (restrict o.ins.tmps (touch st o.ins.tmps o.dst) st).heap && (restrict o.ins.tmps (touch st o.ins.tmps o.dst) st).env.all fun p => namesIn (touch st o.ins.tmps o.dst) p.2) (stepI R (4 * o.dst.getD 0) (restrict o.ins.tmps (touch st o.ins.tmps o.dst) st) o.ins fun v s =>
    when (namesIn (touch st o.ins.tmps o.dst) v && namesH (touch st o.ins.tmps o.dst) s.heap) (K (putD { env := st.env, heap := match o.ins.reads with | true => st.heap | false => mergeH s.heap (touch st o.ins.tmps o.dst) st.heap } o.dst v, ⟨o.ins.tmps ++ g, dstL o.dst, touch st o.ins.tmps o.dst, !o.ins.reads⟩)))) := by
    intro g
    refine .when ?_ fun _ _ _ _ => rfl
    refine .bind (stepI_facR (4 * o.dst.getD 0) (restrict o.ins.tmps (touch st o.ins.tmps o.dst) st) o.ins) (H := fun p _ _ γ K => when (namesIn (touch st o.ins.tmps o.dst) p.1 && namesH (touch st o.ins.tmps o.dst) p.2.heap) (K (putD { env := st.env, heap := match o.ins.reads with | true => st.heap | false => mergeH p.2.heap (touch st o.ins.tmps o.dst) st.heap } o.dst p.1, ⟨o.ins.tmps ++ g, dstL o.dst, touch st o.ins.tmps o.dst, !o.ins.reads⟩))) (fun p => ?_) (fun R k γ K => rfl)
    refine .when (c := namesIn (touch st o.ins.tmps o.dst) p.1 && namesH (touch st o.ins.tmps o.dst) p.2.heap) ?_ fun _ _ _ _ => rfl
    exact .pure _ fun _ _ _ _ => rfl
  have no : ∀ g : List Nat, FacR (fun (_ : Orc) _ γ (K : St × TI → Option γ) => K (putD st o.dst (.tup []), ⟨g, dstL o.dst, [], false⟩)) := fun g => .pure _ fun _ _ _ _ => rfl
  unfold drawO
  rcases o.guard with _ | ⟨t, want⟩
  · exact go []
  · dsimp only
    cases aget t st.env with
    | none => exact .fail fun _ _ _ _ => rfl
    | some v =>
      have gb : ∀ v, FacR (fun R _ γ (K : St × TI → Option γ) => getB v fun b => match want with
          | true => (match b with
            | true => when (namesH (touch st o.ins.tmps o.dst) (restrict o.ins.tmps (touch st o.ins.tmps o.dst) st).heap && (restrict o.ins.tmps (touch st o.ins.tmps o.dst) st).env.all fun p => namesIn (touch st o.ins.tmps o.dst) p.2) (stepI R (4 * o.dst.getD 0) (restrict o.ins.tmps (touch st o.ins.tmps o.dst) st) o.ins fun v s =>
    when (namesIn (touch st o.ins.tmps o.dst) v && namesH (touch st o.ins.tmps o.dst) s.heap) (K (putD { env := st.env, heap := match o.ins.reads with | true => st.heap | false => mergeH s.heap (touch st o.ins.tmps o.dst) st.heap } o.dst v, ⟨o.ins.tmps ++ [t], dstL o.dst, touch st o.ins.tmps o.dst, !o.ins.reads⟩)))
            | false => K (putD st o.dst (.tup []), ⟨[t], dstL o.dst, [], false⟩))
          | false => (match b with
            | true => K (putD st o.dst (.tup []), ⟨[t], dstL o.dst, [], false⟩)
            | false => when (namesH (touch st o.ins.tmps o.dst) (restrict o.ins.tmps (touch st o.ins.tmps o.dst) st).heap && (restrict o.ins.tmps (touch st o.ins.tmps o.dst) st).env.all fun p => namesIn (touch st o.ins.tmps o.dst) p.2) (stepI R (4 * o.dst.getD 0) (restrict o.ins.tmps (touch st o.ins.tmps o.dst) st) o.ins fun v s =>
    when (namesIn (touch st o.ins.tmps o.dst) v && namesH (touch st o.ins.tmps o.dst) s.heap) (K (putD { env := st.env, heap := match o.ins.reads with | true => st.heap | false => mergeH s.heap (touch st o.ins.tmps o.dst) st.heap } o.dst v, ⟨o.ins.tmps ++ [t], dstL o.dst, touch st o.ins.tmps o.dst, !o.ins.reads⟩))))) := by
        intro v
        refine .bind (.ofFac (getB_fac v) fun _ _ _ _ => rfl) (fun b => ?_) (fun R k γ K => rfl)
        cases want <;> cases b <;> first | exact go [t] | exact no [t]
      cases v with
      | tup l => cases l with
        | nil => exact no [t]
        | cons => exact gb _
      | _ => exact gb _
theorem drawRun_facR : ∀ (ops : List DOper) (st : St), FacR (fun R _ γ (K : St × List TI → Option γ) => drawRun R ops st fun s t => K (s, t))
  | [], st => .pure (st, []) fun _ _ _ _ => rfl
  | o :: r, st => .bind (drawO_facR o.o st) (fun p => .bind (drawRun_facR r p.1) (fun q => .pure (q.1, p.2 :: q.2) fun _ _ _ _ => rfl) (fun R k γ K => rfl)) (fun R k γ K => rfl)
section
variable (pin : List Nat)
theorem loopD_facR {c : ACode} (hc : ∀ st, FacR (fun R k γ (K : AExit × St → Option γ) => exec R k pin c γ st fun e s => K (e, s))) (live out : List Nat) {R : Orc} {k : Nat} : ∀ (n : Nat) (st : St) (r : AExit × St),
    loopD pin live out (exec R k pin c (AExit × St)) n st = some r → ∃ qs, Says R qs ∧ ∀ (R' : Orc) (k' n' : Nat), k ≤ k' → n ≤ n' → Says R' qs → loopD pin live out (exec R' k' pin c (AExit × St)) n' st = some r
  | 0, st, r, h => by cases h
  | n + 1, st, r, h => by
    simp only [loopD] at h
    obtain ⟨q1, ⟨e, st'⟩, s1, e1, f1⟩ := (hc st).out R k _ (fun p => match p.1 with
      | .normal => loopD pin live out (exec R k pin c (AExit × St)) n (canon pin live p.2)
      | e => some (e, canon pin out p.2)) r h
    cases e with
    | normal =>
      obtain ⟨q2, s2, f2⟩ := loopD_facR hc live out n _ r e1
      refine ⟨q1 ++ q2, s1.append s2, fun R' k' n' hk hn hs => ?_⟩
      obtain ⟨m, rfl⟩ : ∃ m, n' = m + 1 := ⟨n' - 1, by omega⟩
      simp only [loopD]
      refine (f1 R' k' _ (fun p => match p.1 with
        | .normal => loopD pin live out (exec R' k' pin c (AExit × St)) m (canon pin live p.2)
        | e => some (e, canon pin out p.2)) hk hs.left).trans ?_
      exact f2 R' k' m hk (by omega) hs.right
    | exit id =>
      refine ⟨q1, s1, fun R' k' n' hk hn hs => ?_⟩
      obtain ⟨m, rfl⟩ : ∃ m, n' = m + 1 := ⟨n' - 1, by omega⟩
      simp only [loopD]
      exact (f1 R' k' _ (fun p => match p.1 with
        | .normal => loopD pin live out (exec R' k' pin c (AExit × St)) m (canon pin live p.2)
        | e => some (e, canon pin out p.2)) hk hs).trans e1
    | ret =>
      refine ⟨q1, s1, fun R' k' n' hk hn hs => ?_⟩
      obtain ⟨m, rfl⟩ : ∃ m, n' = m + 1 := ⟨n' - 1, by omega⟩
      simp only [loopD]
      exact (f1 R' k' _ (fun p => match p.1 with
        | .normal => loopD pin live out (exec R' k' pin c (AExit × St)) m (canon pin live p.2)
        | e => some (e, canon pin out p.2)) hk hs).trans e1
theorem exec_facR : ∀ (c : ACode) (st : St), FacR (fun R k γ (K : AExit × St → Option γ) => exec R k pin c γ st fun e s => K (e, s))
  | .skip, st => .pure (.normal, st) fun _ _ _ _ => rfl
  | .region ops, st => .bind (execOps_facR ops st) (fun st' => .pure (.normal, st') fun _ _ _ _ => rfl) (fun R k γ K => rfl)
  | .draws ops, st => .bind (drawRun_facR ops st) (fun p => .when (c := depsOk 0 (ops.map DOper.deps) && indep (maskTab [] (ops.map DOper.deps)) p.2) (.pure (.normal, p.1) fun _ _ _ _ => rfl) fun _ _ _ _ => rfl) (fun R k γ K => rfl)
  | .seq a b, st => by
    refine .bind (exec_facR a st) (H := fun p R k γ K => match p.1 with
      | .normal => exec R k pin b γ p.2 fun e s => K (e, s)
      | e => K (e, p.2)) (fun p => ?_) (fun R k γ K => rfl)
    obtain ⟨e, s⟩ := p
    cases e with
    | normal => exact exec_facR b s
    | exit id => exact .pure (.exit id, s) fun _ _ _ _ => rfl
    | ret => exact .pure (.ret, s) fun _ _ _ _ => rfl
  | .cond c a b, st => by
    refine .bind (.ofFac (ev_fac st c) fun _ _ _ _ => rfl) (fun v => ?_) (fun R k γ K => rfl)
    refine .bind (.ofFac (getB_fac v) fun _ _ _ _ => rfl) (H := fun t R k γ K => match t with
      | true => exec R k pin a γ st fun e s => K (e, s)
      | false => exec R k pin b γ st fun e s => K (e, s)) (fun t => ?_) (fun R k γ K => rfl)
    cases t with
    | true => exact exec_facR a st
    | false => exact exec_facR b st
  | .block id c, st => by
    refine .bind (exec_facR c st) (H := fun p R k γ K => match p.1 with
      | .exit j => bif j == id then K (.normal, p.2) else K (.exit j, p.2)
      | e => K (e, p.2)) (fun p => ?_) (fun R k γ K => rfl)
    obtain ⟨e, s⟩ := p
    cases e with
    | normal => exact .pure (.normal, s) fun _ _ _ _ => rfl
    | ret => exact .pure (.ret, s) fun _ _ _ _ => rfl
    | exit j =>
      dsimp only
      cases j == id with
      | true => exact .pure (.normal, s) fun _ _ _ _ => rfl
      | false => exact .pure (.exit j, s) fun _ _ _ _ => rfl
  | .loop live out c, st => ⟨fun R k β K r h => by
    simp only [exec] at h
    cases hl : loopD pin live out (exec R k pin c (AExit × St)) k (canon pin live st) with
    | none => rw [hl] at h; cases h
    | some p =>
      rw [hl] at h
      obtain ⟨qs, s1, f1⟩ := loopD_facR pin (fun st => exec_facR c st) live out k _ p hl
      refine ⟨qs, p, s1, h, fun R' k' γ K' hk hs => ?_⟩
      simp only [exec]
      rw [f1 R' k' k' hk hk hs]⟩
  | .trim live c, st => (exec_facR c (canon pin live st)).of fun _ _ _ _ => rfl
  | .exit id, st => .pure (.exit id, st) fun _ _ _ _ => rfl
  | .ret, st => .pure (.ret, st) fun _ _ _ _ => rfl
end
end Go.Ab
end
section
namespace Go.Ab
theorem leaves_indep {R R' : Orc} (st : St) : ∀ (l : List RV) (K : List LV → Option Ans), leaves R st l K = leaves R' st l K
  | [], K => rfl
  | .tmp t :: r, K => by
    simp only [leaves]
    congr 1; funext v; exact leaves_indep st r _
  | .cell a n agg :: r, K => by
    simp only [leaves]
    have h : ∀ K', stepI R 0 st (.load n agg (.t a)) K' = (stepI R' 0 st (.load n agg (.t a)) K' : Option Ans) := fun K' => rfl
    rw [h]
    congr 1; funext v s; exact leaves_indep st r _
theorem callF_facR {R : Orc} {k : Nat} {af : AFunc} {ts : List TV} {r : Ans} (h : callF R k af ts = some r) :
    ∃ qs, Says R qs ∧ ∀ (R' : Orc) (k' : Nat), k ≤ k' → Says R' qs → callF R' k' af ts = some r := by
  unfold callF at h
  obtain ⟨hc, h⟩ := when_some h
  obtain ⟨qs, y, s1, e1, f1⟩ := (exec_facR (pinsOf 0 ts) af.body (enters 0 ts)).out R k Ans (fun p => match p.1 with
    | .exit _ => none
    | _ => leaves R p.2 (af.res.map Prod.fst) fun vs => chills p.2.heap (pinsOf 0 ts) fun h0 => gives h0 (vs.zip (af.res.map Prod.snd)) fun gs h => fills h gs fun us ks => pinned h (pinsOf 0 ts) fun l => when (nodupB (ks ++ pinsOf 0 ts)) (some (us, l))) r h
  refine ⟨qs, s1, fun R' k' hk hs => ?_⟩
  unfold callF
  rw [hc]
  refine (f1 R' k' Ans (fun p => match p.1 with
    | .exit _ => none
    | _ => leaves R' p.2 (af.res.map Prod.fst) fun vs => chills p.2.heap (pinsOf 0 ts) fun h0 => gives h0 (vs.zip (af.res.map Prod.snd)) fun gs h => fills h gs fun us ks => pinned h (pinsOf 0 ts) fun l => when (nodupB (ks ++ pinsOf 0 ts)) (some (us, l))) hk hs).trans ?_
  rw [← e1]
  obtain ⟨e, st⟩ := y
  cases e with
  | exit id => rfl
  | normal => exact leaves_indep st _ _
  | ret => exact leaves_indep st _ _
section
variable {tab : Nat → Option AFunc}
theorem run_mono : ∀ {k k' f : Nat} {ts : List TV} {r : Ans}, k ≤ k' → run tab k f ts = some r → run tab k' f ts = some r
  | 0, _, f, ts, r, _, h => by cases h
  | k + 1, k', f, ts, r, hk, h => by
    obtain ⟨m, rfl⟩ : ∃ m, k' = m + 1 := ⟨k' - 1, by omega⟩
    simp only [run] at h ⊢
    cases ht : tab f with
    | none => rw [ht] at h; cases h
    | some af =>
      rw [ht] at h
      cases hp : af.prim with
      | some p => simp only [hp] at h ⊢; exact h
      | none =>
        simp only [hp] at h ⊢
        obtain ⟨qs, s1, f1⟩ := callF_facR h
        exact f1 (run tab m) m (by omega) fun q hq => run_mono (by omega) (s1 q hq)
def Tells (tab : Nat → Option AFunc) (f : Nat) (ts : List TV) (r : Ans) : Prop := ∃ k, run tab k f ts = some r
theorem Tells.unique {f : Nat} {ts : List TV} {r r' : Ans} (h : Tells tab f ts r) (h' : Tells tab f ts r') : r = r' := by
  obtain ⟨k, h⟩ := h
  obtain ⟨k', h'⟩ := h'
  have a := run_mono (Nat.le_max_left k k') h
  have b := run_mono (Nat.le_max_right k k') h'
  rw [a] at b; cases b; rfl
open Classical in
noncomputable def RR (tab : Nat → Option AFunc) : Orc := fun f ts => if h : ∃ r, Tells tab f ts r then some (Classical.choose h) else none
theorem RR_tells {f : Nat} {ts : List TV} {r : Ans} : RR tab f ts = some r ↔ Tells tab f ts r := by
  unfold RR
  constructor
  · intro h
    split at h
    · rename_i hx; cases h; exact Classical.choose_spec hx
    · cases h
  · intro h
    have hx : ∃ r, Tells tab f ts r := ⟨r, h⟩
    rw [dif_pos hx]
    exact congrArg some ((Classical.choose_spec hx).unique h)
theorem says_run : ∀ {qs : List (Nat × List TV × Ans)}, Says (RR tab) qs → ∃ k, Says (run tab k) qs
  | [], _ => ⟨0, Says.nil⟩
  | q :: qs, h => by
    obtain ⟨k, hk⟩ := says_run (qs := qs) fun p hp => h p (List.mem_cons_of_mem _ hp)
    obtain ⟨j, hj⟩ := RR_tells.1 (h q (List.mem_cons_self ..))
    refine ⟨max k j, fun p hp => ?_⟩
    rcases List.mem_cons.1 hp with rfl | hp
    · exact run_mono (Nat.le_max_right k j) hj
    · exact run_mono (Nat.le_max_left k j) (hk p hp)
theorem RR_prim {f : Nat} {af : AFunc} {p : List TV → Option Ans} {ts : List TV} {r : Ans} (hf : tab f = some af) (hp : af.prim = some p) (h : p ts = some r) : RR tab f ts = some r :=
  RR_tells.2 ⟨1, by simp only [run, hf, hp]; exact h⟩
theorem RR_of {f : Nat} {af : AFunc} {ts : List TV} {r : Ans} (hf : tab f = some af) (hp : af.prim = none) (k : Nat) (h : callF (RR tab) k af ts = some r) : RR tab f ts = some r := by
  obtain ⟨qs, s1, f1⟩ := callF_facR h
  obtain ⟨j, hj⟩ := says_run s1
  refine RR_tells.2 ⟨max k j + 1, ?_⟩
  simp only [run, hf, hp]
  exact f1 _ _ (Nat.le_max_left k j) fun q hq => run_mono (Nat.le_max_right k j) (hj q hq)
end
end Go.Ab
end
section
namespace Go.Ab
def alearn {α : Type} (k : Nat) (v : α) : List (Nat × α) → List (Nat × α)
  | [] => []
  | (j, u) :: r => bif j == k then (j, v) :: r else (j, u) :: alearn k v r
theorem alearn_eq {α : Type} {k : Nat} {v : α} : ∀ {l : List (Nat × α)}, aget k l = some v → alearn k v l = l
  | [], _ => rfl
  | (j, u) :: r, h => by
    simp only [aget, alearn] at h ⊢
    cases hb : j == k with
    | true => rw [hb] at h; simp only [cond_true] at h ⊢; cases h; rfl
    | false => rw [hb] at h; simp only [cond_false] at h ⊢; rw [alearn_eq h]
def St.learn (st : St) (t : Nat) (b : Bool) : St := { st with env := alearn t (.fz (.bool b)) st.env }
def learnC (st : St) : Opnd → Bool → St
  | .t n, b => st.learn n b
  | .c _, _ => st
theorem isBool_eq {v : LV} (h : v.isBool = true) : v = .fz (.bool v.toBool) := by
  cases v with
  | fz v => cases v with
    | bool b => rfl
    | _ => cases h
  | _ => cases h
theorem St.learn_eq {st : St} {t : Nat} {b : Bool} (h : aget t st.env = some (.fz (.bool b))) : st.learn t b = st := by
  unfold St.learn; rw [alearn_eq h]
def forceL {α β : Type} : List α → (List α → Option β) → Option β
  | [], K => K []
  | a :: r, K => forceL r fun r' => K (a :: r')
theorem forceL_eq {α β : Type} : ∀ (l : List α) (K : List α → Option β), forceL l K = K l
  | [], _ => rfl
  | a :: r, K => forceL_eq r _
def forceS {β : Type} (st : St) (K : St → Option β) : Option β := forceL st.env fun e => forceL st.heap fun h => K ⟨e, h⟩
theorem forceS_eq {β : Type} (st : St) (K : St → Option β) : forceS st K = K st := by
  unfold forceS; rw [forceL_eq, forceL_eq]
theorem when_tr {β : Type} (x : Option β) : when true x = x := rfl
def kindK {β : Type} (k : Option EK) (v : LV) (K : LV → Option β) : Option β := match k with
  | none => K v
  | some (.int k) => when (v.isInt k) (K (.fz (.int k v.toInt)))
  | some .bool => when v.isBool (K (.fz (.bool v.toBool)))
  | some .str => when v.isStr (K (.fz (.str v.toStr)))
theorem kindK_some {β : Type} {k : Option EK} {v : LV} {K : LV → Option β} {r : β} (h : kindK k v K = some r) : K v = some r := by
  unfold kindK at h
  split at h
  · exact h
  · obtain ⟨h1, h2⟩ := when_some h
    cases v with
    | fz v => cases v with
      | int k' n => simp [LV.isInt, FV.isInt] at h1; subst h1; exact h2
      | _ => cases h1
    | _ => cases h1
  · obtain ⟨h1, h2⟩ := when_some h
    cases v with
    | fz v => cases v with
      | bool b => exact h2
      | _ => cases h1
    | _ => cases h1
  · obtain ⟨h1, h2⟩ := when_some h
    cases v with
    | fz v => cases v with
      | str b => exact h2
      | _ => cases h1
    | _ => cases h1
section
variable (R : Orc) {β : Type}
def stepIL (key : Nat) (st : St) (i : AI) (K : LV → St → Option β) : Option β :=
  match i with
  | .pick c a b => ev st c fun v => getB v fun t => match t with
    | true => ev st a fun v => K v (learnC st c true)
    | false => ev st b fun v => K v (learnC st c false)
  | i => stepI R key st i K
theorem ev_learn (st : St) (c : Opnd) (F G : St → Option β) : (ev st c fun v => getB v fun t => match t with
    | true => F (learnC st c true)
    | false => G (learnC st c false)) = ev st c fun v => getB v fun t => match t with
    | true => F st
    | false => G st := by
  cases c with
  | c v => rfl
  | t n =>
    simp only [ev]
    cases h : aget n st.env with
    | none => rfl
    | some v =>
      simp only [getB]
      cases hb : v.isBool with
      | false => rfl
      | true =>
        have hv := isBool_eq hb
        rw [hv] at h
        simp only [Ab.when]
        cases hq : v.toBool with
        | true => rw [hq] at h; simp only [learnC, St.learn_eq h]
        | false => rw [hq] at h; simp only [learnC, St.learn_eq h]
theorem stepIL_eq (key : Nat) (st : St) (i : AI) (K : LV → St → Option β) : stepIL R key st i K = stepI R key st i K := by
  cases i with
  | pick c a b => exact ev_learn st c (fun s => ev st a fun v => K v s) (fun s => ev st b fun v => K v s)
  | _ => rfl
def goO (o : AOper) (st : St) (K : St → Option β) : Option β := stepIL R (4 * o.dst.getD 0) st o.ins fun v st' => kindK o.kind v fun v => forceS (putD st' o.dst v) K
def noO (o : AOper) (st : St) (K : St → Option β) : Option β := forceS (putD st o.dst (.tup [])) K
def stepOL (o : AOper) (st : St) (K : St → Option β) : Option β :=
  match o.guard with
  | none => goO R o st K
  | some (t, want) => match aget t st.env with
    | some (.tup []) => noO o st K
    | some v => getB v fun b => match want with
      | true => (match b with
        | true => goO R o (st.learn t true) K
        | false => noO o (st.learn t false) K)
      | false => (match b with
        | true => noO o (st.learn t true) K
        | false => goO R o (st.learn t false) K)
    | none => none
theorem goO_ref {o : AOper} {st : St} {K K' : St → Option β} {r : β} (hK : ∀ s, K s = some r → K' s = some r) (h : goO R o st K = some r) : (stepI R (4 * o.dst.getD 0) st o.ins fun v st' => K' (putD st' o.dst v)) = some r := by
  unfold goO at h
  rw [stepIL_eq] at h
  obtain ⟨y, h1, f⟩ := (stepI_fac R (4 * o.dst.getD 0) st o.ins).out β (fun p => kindK o.kind p.1 fun v => forceS (putD p.2 o.dst v) K) r h
  have h2 := kindK_some h1
  rw [forceS_eq] at h2
  exact (f β fun p => K' (putD p.2 o.dst p.1)).trans (hK _ h2)
theorem noO_ref {o : AOper} {st : St} {K K' : St → Option β} {r : β} (hK : ∀ s, K s = some r → K' s = some r) (h : noO o st K = some r) : K' (putD st o.dst (.tup [])) = some r := by
  unfold noO at h
  rw [forceS_eq] at h
  exact hK _ h
theorem stepOL_ref {o : AOper} {st : St} {K K' : St → Option β} {r : β} (hK : ∀ s, K s = some r → K' s = some r) (h : stepOL R o st K = some r) : stepO R o st K' = some r := by
  unfold stepOL at h
  unfold stepO
  rcases hg : o.guard with _ | ⟨t, want⟩
  · rw [hg] at h; exact goO_ref R hK h
  · rw [hg] at h
    dsimp only at h ⊢
    cases ht : aget t st.env with
    | none => rw [ht] at h; cases h
    | some v =>
      rw [ht] at h
      have gen : (getB v fun b => match want with
          | true => (match b with
            | true => goO R o (st.learn t true) K
            | false => noO o (st.learn t false) K)
          | false => (match b with
            | true => noO o (st.learn t true) K
            | false => goO R o (st.learn t false) K)) = some r → (getB v fun b => match want with
          | true => (match b with | true => stepI R (4 * o.dst.getD 0) st o.ins fun v st' => K' (putD st' o.dst v) | false => K' (putD st o.dst (.tup [])))
          | false => (match b with | true => K' (putD st o.dst (.tup [])) | false => stepI R (4 * o.dst.getD 0) st o.ins fun v st' => K' (putD st' o.dst v))) = some r := fun h => by
        simp only [getB] at h ⊢
        obtain ⟨hb, h⟩ := when_some h
        rw [hb, when_tr]
        have hv := isBool_eq hb
        have hl : st.learn t v.toBool = st := St.learn_eq (by rw [ht]; exact congrArg some hv)
        cases hq : v.toBool <;> rw [hq] at h hl <;> cases want <;> simp only [hl] at h ⊢ <;> first | exact goO_ref R hK h | exact noO_ref hK h
      cases v with
      | tup l => cases l with
        | nil => exact noO_ref hK h
        | cons => exact gen h
      | _ => exact gen h
theorem ev_learnR (st st0 : St) (hs : ∀ n v, aget n st0.env = some v → aget n st.env = some v) (c : Opnd) (F G : St → Option β) : (ev st0 c fun v => getB v fun t => match t with
    | true => F (learnC st c true)
    | false => G (learnC st c false)) = ev st0 c fun v => getB v fun t => match t with
    | true => F st
    | false => G st := by
  cases c with
  | c v => rfl
  | t n =>
    simp only [ev]
    cases h0 : aget n st0.env with
    | none => rfl
    | some v =>
      have h := hs n v h0
      simp only [getB]
      cases hb : v.isBool with
      | false => rfl
      | true =>
        have hv := isBool_eq hb
        rw [hv] at h
        simp only [Ab.when]
        cases hq : v.toBool with
        | true => rw [hq] at h; simp only [learnC, St.learn_eq h]
        | false => rw [hq] at h; simp only [learnC, St.learn_eq h]
def goD (o : AOper) (st : St) (g : List Nat) (K : St → TI → Option β) : Option β :=
  when (namesH (touch st o.ins.tmps o.dst) (restrict o.ins.tmps (touch st o.ins.tmps o.dst) st).heap && (restrict o.ins.tmps (touch st o.ins.tmps o.dst) st).env.all fun p => namesIn (touch st o.ins.tmps o.dst) p.2) (stepI R (4 * o.dst.getD 0) (restrict o.ins.tmps (touch st o.ins.tmps o.dst) st) o.ins fun v s => kindK o.kind v fun v =>
    when (namesIn (touch st o.ins.tmps o.dst) v && namesH (touch st o.ins.tmps o.dst) s.heap) (K (putD { env := st.env, heap := match o.ins.reads with | true => st.heap | false => mergeH s.heap (touch st o.ins.tmps o.dst) st.heap } o.dst v) ⟨o.ins.tmps ++ g, dstL o.dst, touch st o.ins.tmps o.dst, !o.ins.reads⟩))
def goPick (k : Option EK) (d : Option Nat) (c a b : Opnd) (st : St) (g : List Nat) (K : St → TI → Option β) : Option β :=
  let ts := (AI.pick c a b).tmps
  let T := touch st ts d
  let r := restrict ts T st
  let go := fun (x : Opnd) (s : St) => ev r x fun v => kindK k v fun v => when (namesIn T v && namesH T r.heap) (K (putD { env := s.env, heap := st.heap } d v) ⟨ts ++ g, dstL d, T, false⟩)
  when (namesH T r.heap && r.env.all fun p => namesIn T p.2) (ev r c fun v => getB v fun t => match t with
    | true => go a (learnC st c true)
    | false => go b (learnC st c false))
def goL (o : AOper) (st : St) (g : List Nat) (K : St → TI → Option β) : Option β :=
  match o.ins with
  | .pick c a b => goPick o.kind o.dst c a b st g K
  | _ => goD R o st g K
theorem restrict_env (ts T : List Nat) (st : St) (n : Nat) (v : LV) (h : aget n (restrict ts T st).env = some v) : aget n st.env = some v := by
  simp only [restrict] at h
  rw [pickA_get] at h
  split at h
  · exact h
  · cases h
theorem goL_eq (o : AOper) (st : St) (g : List Nat) (K : St → TI → Option β) : goL R o st g K = goD R o st g K := by
  unfold goL
  split
  · rename_i c a b h
    unfold goD goPick
    rw [h]
    dsimp only
    rw [ev_learnR st _ (restrict_env _ _ st) c (fun s => ev (restrict (AI.pick c a b).tmps (touch st (AI.pick c a b).tmps o.dst) st) a fun v => kindK o.kind v fun v => when (namesIn (touch st (AI.pick c a b).tmps o.dst) v && namesH (touch st (AI.pick c a b).tmps o.dst) (restrict (AI.pick c a b).tmps (touch st (AI.pick c a b).tmps o.dst) st).heap) (K (putD { env := s.env, heap := st.heap } o.dst v) ⟨(AI.pick c a b).tmps ++ g, dstL o.dst, touch st (AI.pick c a b).tmps o.dst, false⟩)) (fun s => ev (restrict (AI.pick c a b).tmps (touch st (AI.pick c a b).tmps o.dst) st) b fun v => kindK o.kind v fun v => when (namesIn (touch st (AI.pick c a b).tmps o.dst) v && namesH (touch st (AI.pick c a b).tmps o.dst) (restrict (AI.pick c a b).tmps (touch st (AI.pick c a b).tmps o.dst) st).heap) (K (putD { env := s.env, heap := st.heap } o.dst v) ⟨(AI.pick c a b).tmps ++ g, dstL o.dst, touch st (AI.pick c a b).tmps o.dst, false⟩))]
    rfl
  · rfl
def drawOL (o : AOper) (st : St) (K : St → TI → Option β) : Option β :=
  match o.guard with
  | none => goL R o st [] K
  | some (t, want) => match aget t st.env with
    | some (.tup []) => K (putD st o.dst (.tup [])) ⟨[t], dstL o.dst, [], false⟩
    | some v => getB v fun b => match want with
      | true => (match b with
        | true => goL R o (st.learn t true) [t] K
        | false => K (putD (st.learn t false) o.dst (.tup [])) ⟨[t], dstL o.dst, [], false⟩)
      | false => (match b with
        | true => K (putD (st.learn t true) o.dst (.tup [])) ⟨[t], dstL o.dst, [], false⟩
        | false => goL R o (st.learn t false) [t] K)
    | none => none
theorem goL_ref {o : AOper} {st : St} {g : List Nat} {K K' : St → TI → Option β} {r : β} (hK : ∀ s t, K s t = some r → K' s t = some r) (h : goL R o st g K = some r) :
    when (namesH (touch st o.ins.tmps o.dst) (restrict o.ins.tmps (touch st o.ins.tmps o.dst) st).heap && (restrict o.ins.tmps (touch st o.ins.tmps o.dst) st).env.all fun p => namesIn (touch st o.ins.tmps o.dst) p.2) (stepI R (4 * o.dst.getD 0) (restrict o.ins.tmps (touch st o.ins.tmps o.dst) st) o.ins fun v s =>
    when (namesIn (touch st o.ins.tmps o.dst) v && namesH (touch st o.ins.tmps o.dst) s.heap) (K' (putD { env := st.env, heap := match o.ins.reads with | true => st.heap | false => mergeH s.heap (touch st o.ins.tmps o.dst) st.heap } o.dst v) ⟨o.ins.tmps ++ g, dstL o.dst, touch st o.ins.tmps o.dst, !o.ins.reads⟩)) = some r := by
  rw [goL_eq] at h
  unfold goD at h
  obtain ⟨h0, h⟩ := when_some h
  rw [h0]
  obtain ⟨y, h1, f⟩ := (stepI_fac R (4 * o.dst.getD 0) (restrict o.ins.tmps (touch st o.ins.tmps o.dst) st) o.ins).out β (fun p => kindK o.kind p.1 fun v =>
    when (namesIn (touch st o.ins.tmps o.dst) v && namesH (touch st o.ins.tmps o.dst) p.2.heap) (K (putD { env := st.env, heap := match o.ins.reads with | true => st.heap | false => mergeH p.2.heap (touch st o.ins.tmps o.dst) st.heap } o.dst v) ⟨o.ins.tmps ++ g, dstL o.dst, touch st o.ins.tmps o.dst, !o.ins.reads⟩)) r h
  obtain ⟨h2, h3⟩ := when_some (kindK_some h1)
  refine (f β fun p => when (namesIn (touch st o.ins.tmps o.dst) p.1 && namesH (touch st o.ins.tmps o.dst) p.2.heap) (K' (putD { env := st.env, heap := match o.ins.reads with | true => st.heap | false => mergeH p.2.heap (touch st o.ins.tmps o.dst) st.heap } o.dst p.1) ⟨o.ins.tmps ++ g, dstL o.dst, touch st o.ins.tmps o.dst, !o.ins.reads⟩)).trans ?_
  show when _ _ = some r
  rw [h2]
  exact hK _ _ h3
theorem drawOL_ref {o : AOper} {st : St} {K K' : St → TI → Option β} {r : β} (hK : ∀ s t, K s t = some r → K' s t = some r) (h : drawOL R o st K = some r) : drawO R o st K' = some r := by
  unfold drawOL at h
  unfold drawO
  dsimp only
  rcases hg : o.guard with _ | ⟨t, want⟩
  · rw [hg] at h; exact goL_ref R hK h
  · rw [hg] at h
    dsimp only at h ⊢
    cases ht : aget t st.env with
    | none => rw [ht] at h; cases h
    | some v =>
      rw [ht] at h
      have gen : (getB v fun b => match want with
          | true => (match b with
            | true => goL R o (st.learn t true) [t] K
            | false => K (putD (st.learn t false) o.dst (.tup [])) ⟨[t], dstL o.dst, [], false⟩)
          | false => (match b with
            | true => K (putD (st.learn t true) o.dst (.tup [])) ⟨[t], dstL o.dst, [], false⟩
            | false => goL R o (st.learn t false) [t] K)) = some r → (getB v fun b => match want with
          | true => (match b with
            | true => when (namesH (touch st o.ins.tmps o.dst) (restrict o.ins.tmps (touch st o.ins.tmps o.dst) st).heap && (restrict o.ins.tmps (touch st o.ins.tmps o.dst) st).env.all fun p => namesIn (touch st o.ins.tmps o.dst) p.2) (stepI R (4 * o.dst.getD 0) (restrict o.ins.tmps (touch st o.ins.tmps o.dst) st) o.ins fun v s =>
    when (namesIn (touch st o.ins.tmps o.dst) v && namesH (touch st o.ins.tmps o.dst) s.heap) (K' (putD { env := st.env, heap := match o.ins.reads with | true => st.heap | false => mergeH s.heap (touch st o.ins.tmps o.dst) st.heap } o.dst v) ⟨o.ins.tmps ++ [t], dstL o.dst, touch st o.ins.tmps o.dst, !o.ins.reads⟩))
            | false => K' (putD st o.dst (.tup [])) ⟨[t], dstL o.dst, [], false⟩)
          | false => (match b with
            | true => K' (putD st o.dst (.tup [])) ⟨[t], dstL o.dst, [], false⟩
            | false => when (namesH (touch st o.ins.tmps o.dst) (restrict o.ins.tmps (touch st o.ins.tmps o.dst) st).heap && (restrict o.ins.tmps (touch st o.ins.tmps o.dst) st).env.all fun p => namesIn (touch st o.ins.tmps o.dst) p.2) (stepI R (4 * o.dst.getD 0) (restrict o.ins.tmps (touch st o.ins.tmps o.dst) st) o.ins fun v s =>
    when (namesIn (touch st o.ins.tmps o.dst) v && namesH (touch st o.ins.tmps o.dst) s.heap) (K' (putD { env := st.env, heap := match o.ins.reads with | true => st.heap | false => mergeH s.heap (touch st o.ins.tmps o.dst) st.heap } o.dst v) ⟨o.ins.tmps ++ [t], dstL o.dst, touch st o.ins.tmps o.dst, !o.ins.reads⟩)))) = some r := fun h => by
        simp only [getB] at h ⊢
        obtain ⟨hb, h⟩ := when_some h
        rw [hb, when_tr]
        have hv := isBool_eq hb
        have hl : st.learn t v.toBool = st := St.learn_eq (by rw [ht]; exact congrArg some hv)
        cases hq : v.toBool <;> rw [hq] at h hl <;> cases want <;> simp only [hl] at h ⊢ <;> first | exact goL_ref R hK h | exact hK _ _ h
      cases v with
      | tup l => cases l with
        | nil => exact hK _ _ h
        | cons => exact gen h
      | _ => exact gen h
def drawRunL : List DOper → St → (St → List TI → Option β) → Option β
  | [], st, K => K st []
  | o :: r, st, K => drawOL R o.o st fun st' ti => forceS st' fun st' => drawRunL r st' fun st'' tis => K st'' (ti :: tis)
theorem drawRunL_ref : ∀ (l : List DOper) {st : St} {K K' : St → List TI → Option β} {r : β}, (∀ s t, K s t = some r → K' s t = some r) → drawRunL R l st K = some r → drawRun R l st K' = some r
  | [], _, _, _, _, hK, h => hK _ _ h
  | o :: l, st, K, K', r, hK, h => by
    simp only [drawRunL] at h
    simp only [drawRun]
    refine drawOL_ref R (fun s t hs => ?_) h
    rw [forceS_eq] at hs
    exact drawRunL_ref l (fun s' ts => hK _ _) hs
def execOpsL : List AOper → St → (St → Option β) → Option β
  | [], st, K => K st
  | o :: r, st, K => stepOL R o st fun st' => execOpsL r st' K
theorem execOpsL_ref : ∀ (l : List AOper) {st : St} {K K' : St → Option β} {r : β}, (∀ s, K s = some r → K' s = some r) → execOpsL R l st K = some r → execOps R l st K' = some r
  | [], _, _, _, _, hK, h => hK _ h
  | o :: l, st, K, K', r, hK, h => by
    simp only [execOpsL] at h
    simp only [execOps]
    exact stepOL_ref R (fun s hs => execOpsL_ref l hK hs) h
end
section
def jump {β : Type} (w : Bool) (x : Option β) : Option β := match w with | true => x | false => none
@[simp] theorem jump_true {β : Type} (x : Option β) : jump true x = x := (rfl)
def ifB {β : Type} (c : Bool) (x y : Option β) : Option β := match c with | true => x | false => y
@[simp] theorem ifB_true {β : Type} (x y : Option β) : ifB true x y = x := (rfl)
@[simp] theorem ifB_false {β : Type} (x y : Option β) : ifB false x y = y := (rfl)
variable (R : Orc) (k : Nat) (w : Bool) (pin : List Nat)
def execL : ACode → (β : Type) → St → (AExit → St → Option β) → Option β
  | .skip, _, st, K => K .normal st
  | .region ops, _, st, K => execOpsL R ops st fun st' => K .normal st'
  | .draws ops, _, st, K => drawRunL R ops st fun st' tis => when (depsOk 0 (ops.map DOper.deps) && indep (maskTab [] (ops.map DOper.deps)) tis) (K .normal st')
  | .seq a b, β, st, K => execL a β st fun e st' => match e with
    | .normal => execL b β st' K
    | e => K e st'
  | .cond c a b, β, st, K => ev st c fun v => getB v fun t => match t with
    | true => forceS (learnC st c true) fun st => execL a β st K
    | false => forceS (learnC st c false) fun st => execL b β st K
  | .block id c, β, st, K => execL c β st fun e st' => match e with
    | .exit j => bif j == id then K .normal st' else K (.exit j) st'
    | e => K e st'
  | .loop live out c, _, st, K => match loopD pin live out (execL c (AExit × St)) k (canon pin live st) with
    | some r => K r.1 r.2
    | none => none
  | .trim live c, β, st, K => forceS (canon pin live st) fun st => jump w (execL c β st K)
  | .exit id, _, st, K => K (.exit id) st
  | .ret, _, st, K => K .ret st
theorem jump_some {β : Type} {w : Bool} {x : Option β} {r : β} (h : jump w x = some r) : x = some r := by
  cases w with
  | true => exact h
  | false => cases h
theorem loopL_ref {c : ACode} {live out : List Nat} (hc : ∀ {st : St} {K K' : AExit → St → Option (AExit × St)} {r : AExit × St}, (∀ e s, K e s = some r → K' e s = some r) → execL R k w pin c (AExit × St) st K = some r → exec R k pin c (AExit × St) st K' = some r) :
    ∀ (n : Nat) {st : St} {r : AExit × St}, loopD pin live out (execL R k w pin c (AExit × St)) n st = some r → loopD pin live out (exec R k pin c (AExit × St)) n st = some r
  | 0, _, _, h => by cases h
  | n + 1, st, r, h => by
    simp only [loopD] at h ⊢
    refine hc (fun e s hs => ?_) h
    cases e with
    | normal => exact loopL_ref hc n hs
    | exit _ => exact hs
    | ret => exact hs
theorem execL_ref : ∀ (c : ACode) {β : Type} {st : St} {K K' : AExit → St → Option β} {r : β}, (∀ e s, K e s = some r → K' e s = some r) → execL R k w pin c β st K = some r → exec R k pin c β st K' = some r
  | .skip, _, _, _, _, _, hK, h => hK _ _ h
  | .region ops, _, _, _, _, _, hK, h => execOpsL_ref R ops (fun s => hK _ s) h
  | .draws ops, _, _, _, _, _, hK, h => drawRunL_ref R ops (fun s tis hs => by
      obtain ⟨h1, h2⟩ := when_some hs
      rw [h1]; exact hK _ _ h2) h
  | .seq a b, _, _, _, _, _, hK, h => by
    simp only [execL] at h
    simp only [exec]
    refine execL_ref a (fun e s hs => ?_) h
    cases e with
    | normal => exact execL_ref b hK hs
    | exit _ => exact hK _ _ hs
    | ret => exact hK _ _ hs
  | .cond c a b, β, st, K, K', r, hK, h => by
    simp only [execL, forceS_eq] at h
    simp only [exec]
    rw [ev_learn st c (fun s => execL R k w pin a β s K) (fun s => execL R k w pin b β s K)] at h
    cases c with
    | c v =>
      simp only [ev, getB] at h ⊢
      obtain ⟨h1, h2⟩ := when_some h
      rw [h1, when_tr]
      cases hv : v.toBool <;> rw [hv] at h2
      · exact execL_ref b hK h2
      · exact execL_ref a hK h2
    | t n =>
      simp only [ev] at h ⊢
      cases hg : aget n st.env with
      | none => rw [hg] at h; cases h
      | some v =>
        rw [hg] at h
        simp only [getB] at h ⊢
        obtain ⟨h1, h2⟩ := when_some h
        rw [h1, when_tr]
        cases hv : v.toBool <;> rw [hv] at h2
        · exact execL_ref b hK h2
        · exact execL_ref a hK h2
  | .block id c, _, _, _, _, _, hK, h => by
    simp only [execL] at h
    simp only [exec]
    refine execL_ref c (fun e s hs => ?_) h
    cases e with
    | normal => exact hK _ _ hs
    | ret => exact hK _ _ hs
    | exit j =>
      simp only at hs ⊢
      cases hj : j == id <;> rw [hj] at hs
      · exact hK _ _ hs
      · exact hK _ _ hs
  | .loop live out c, β, st, K, K', r, hK, h => by
    simp only [execL] at h
    simp only [exec]
    cases hl : loopD pin live out (execL R k w pin c (AExit × St)) k (canon pin live st) with
    | none => rw [hl] at h; cases h
    | some p =>
      rw [hl] at h
      rw [loopL_ref R k w pin (fun hK h => execL_ref c hK h) k hl]
      exact hK _ _ h
  | .trim live c, _, st, _, _, _, hK, h => by
    simp only [execL] at h
    rw [forceS_eq] at h
    exact execL_ref c hK (jump_some h)
  | .exit _, _, _, _, _, _, hK, h => hK _ _ h
  | .ret, _, _, _, _, _, hK, h => hK _ _ h
def kFin (res : List (RV × Mode)) (pins : List Nat) : AExit → St → Option Ans := fun e st => match e with
  | .exit _ => none
  | _ => leaves R st (res.map Prod.fst) fun vs => chills st.heap pins fun h0 => gives h0 (vs.zip (res.map Prod.snd)) fun gs h => fills h gs fun us ks => pinned h pins fun l => when (nodupB (ks ++ pins)) (some (us, l))
def callL (af : AFunc) (ts : List TV) : Option Ans := execL R k w (pinsOf 0 ts) af.body Ans (enters 0 ts) (kFin R af.res (pinsOf 0 ts))
theorem callL_ref {af : AFunc} {ts : List TV} {r : Ans} (h : (ts.length == af.np && Nat.blt af.np 1000) = true) (e : callL R k w af ts = some r) : callF R k af ts = some r := by
  unfold callL at e
  unfold callF
  rw [h]
  refine execL_ref R k w _ _ (fun x s hs => ?_) e
  cases x with
  | exit _ => cases hs
  | normal => exact hs
  | ret => exact hs
end
section
variable {tab : Nat → Option AFunc}
theorem RR_call {f : Nat} (af : AFunc) {ts : List TV} {r : Ans} (hf : tab f = some af) (hl : (af.prim.isNone && (ts.length == af.np && Nat.blt af.np 1000)) = true) (k : Nat) (h : callL (RR tab) k true af ts = some r) : RR tab f ts = some r :=
  RR_of hf (by rw [Bool.and_eq_true] at hl; exact Option.isNone_iff_eq_none.1 hl.1) k (callL_ref (RR tab) k true (by rw [Bool.and_eq_true] at hl; exact hl.2) h)
end
section
variable (R : Orc) (k : Nat) (w : Bool) (pin : List Nat) {β : Type}
def kSeq (b : ACode) (K : AExit → St → Option β) : AExit → St → Option β := fun e st' => match e with
  | .normal => execL R k w pin b β st' K
  | e => K e st'
def kBlk (id : Nat) (K : AExit → St → Option β) : AExit → St → Option β := fun e st' => match e with
  | .exit j => bif j == id then K .normal st' else K (.exit j) st'
  | e => K e st'
def loopL (live out : List Nat) (c : ACode) (n : Nat) (st : St) : Option (AExit × St) := loopD pin live out (execL R k w pin c (AExit × St)) n st
def kLoop (live out : List Nat) (c : ACode) (n : Nat) : AExit → St → Option (AExit × St) := fun e st' => match e with
  | .normal => loopL R k w pin live out c n (canon pin live st')
  | e => some (e, canon pin out st')
def onL (r : Option (AExit × St)) (K : AExit → St → Option β) : Option β := match r with
  | some r => K r.1 r.2
  | none => none
theorem onL_some {e : AExit} {st : St} {K : AExit → St → Option β} : onL (some (e, st)) K = K e st := (rfl)
def onR (a : Option Ans) (K : Ans → Option β) : Option β := match a with
  | none => none
  | some r => K r
theorem onR_some {r : Ans} {K : Ans → Option β} : onR (some r) K = K r := (rfl)
end
end Go.Ab
end
section
namespace Go.Ab
def fid : Code → Nat
  | .region id _ _ => id
  | .seq a b => (match fid a with | 0 => fid b | n => n)
  | .cond _ a b => (match fid a with | 0 => fid b | n => n)
  | .block _ c => fid c
  | .loop c => fid c
  | _ => 0
def lk : List (Nat × List Nat × List Nat) → Nat → List Nat × List Nat
  | [], _ => ([], [])
  | (m, x) :: r, n => bif m == n then x else lk r n
def livesBy (L T : Nat → List (Nat × List Nat × List Nat)) (f : Nat) : Code → List Nat × List Nat
  | .seq .skip b => lk (T f) (fid b)
  | c => lk (L f) (fid c)
section
variable {β : Type}
@[simp] theorem when_true' (x : Option β) : when true x = x := (rfl)
@[simp] theorem when_false' (x : Option β) : when false x = none := (rfl)
end
theorem wrap64 {n : Int} (h1 : -9223372036854775808 ≤ n) (h2 : n ≤ 9223372036854775807) : IntKind.wrap .i64 n = n := by
  simp only [IntKind.wrap]
  have : IntKind.bits .i64 = 64 := rfl
  have hs : IntKind.signed .i64 = true := rfl
  simp only [this, hs]
  simp
  split <;> omega
@[simp] theorem isInt_int (k : IntKind) (n : Int) : FV.isInt k (.int k n) = true := by simp [FV.isInt]
@[simp] theorem isNum_int (k : IntKind) (n : Int) : FV.isNum (.int k n) = true := (rfl)
@[simp] theorem toInt_int (k : IntKind) (n : Int) : FV.toInt (.int k n) = n := (rfl)
@[simp] theorem isBool_bool (b : Bool) : FV.isBool (.bool b) = true := (rfl)
@[simp] theorem toBool_bool (b : Bool) : FV.toBool (.bool b) = b := (rfl)
@[simp] theorem isStr_str (s : ByteArray) : FV.isStr (.str s) = true := (rfl)
@[simp] theorem toStr_str (s : ByteArray) : FV.toStr (.str s) = s := (rfl)
@[simp] theorem isSl_sl (s : List FV) : FV.isSl (.sl s) = true := (rfl)
@[simp] theorem toSl_sl (s : List FV) : FV.toSl (.sl s) = s := (rfl)
@[simp] theorem toAg_ag (s : List FV) : FV.toAg (.ag s) = s := (rfl)
@[simp] theorem isAg_ag (n : Nat) (s : List FV) : FV.isAg n (.ag s) = (s.length == n) := (rfl)
@[simp] theorem cell_ag (s : List FV) (i : Nat) : FV.cell (.ag s) i = s.getD i .nilp := (rfl)
@[simp] theorem fits_int (k : IntKind) (n : Int) : FV.fits 1 false (.int k n) = true := (rfl)
@[simp] theorem fits_bool (b : Bool) : FV.fits 1 false (.bool b) = true := (rfl)
@[simp] theorem fits_str (s : ByteArray) : FV.fits 1 false (.str s) = true := (rfl)
@[simp] theorem fits_sl (s : List FV) : FV.fits 1 false (.sl s) = true := (rfl)
@[simp] theorem fits_ag (n : Nat) (s : List FV) : FV.fits n true (.ag s) = (s.length == n) := (rfl)
@[simp] theorem toF_fz (v : FV) : TV.toF (.fz v) = v := (rfl)
@[simp] theorem isF_fz (v : FV) : TV.isF (.fz v) = true := (rfl)
@[simp] theorem isF_pv (n : Nat) (agg : Bool) (v : LV) : TV.isF (.pv n agg v) = false := (rfl)
@[simp] theorem isPv_pv (n n' : Nat) (agg agg' : Bool) (e : FV) : TV.isPv n agg (.pv n' agg' (.fz e)) = (n == n' && agg == agg') := (rfl)
@[simp] theorem toV_pv (n : Nat) (agg : Bool) (e : FV) : TV.toV (.pv n agg (.fz e)) = e := (rfl)
@[simp] theorem isEm_em : TV.isEm .em = true := (rfl)
@[simp] theorem isEm_uq (sz : Nat) (agg : Bool) (xs : List FV) : TV.isEm (.uq sz agg xs) = false := (rfl)
@[simp] theorem isUq_uq (sz sz' : Nat) (agg agg' : Bool) (xs : List FV) : TV.isUq sz agg (.uq sz' agg' xs) = (sz == sz' && agg == agg') := (rfl)
@[simp] theorem xs_uq (sz : Nat) (agg : Bool) (xs : List FV) : TV.xs (.uq sz agg xs) = xs := (rfl)
@[simp] theorem lisFz_fz (e : FV) : LV.isFz (.fz e) = true := (rfl)
@[simp] theorem ltoFz_fz (e : FV) : LV.toFz (.fz e) = e := (rfl)
@[simp] theorem isNil_nilp : FV.isNil .nilp = true := (rfl)
@[simp] theorem isNil_pt (n : Nat) (agg : Bool) (e : FV) (off : Nat) : FV.isNil (.pt n agg e off) = false := (rfl)
@[simp] theorem isPt_pt (n : Nat) (agg : Bool) (e : FV) (off : Nat) : FV.isPt (.pt n agg e off) = true := (rfl)
@[simp] theorem fits_pt (n : Nat) (agg : Bool) (e : FV) (off : Nat) : FV.fits 1 false (.pt n agg e off) = true := (rfl)
@[simp] theorem fits_nilp : FV.fits 1 false .nilp = true := (rfl)
@[simp] theorem allF_nil : allF [] [] = true := (rfl)
@[simp] theorem allF_cons (m : Mode) (ms : List Mode) (v : FV) (ts : List TV) : allF (m :: ms) (.fz v :: ts) = allF ms ts := (rfl)
theorem all_fits {α : Type} (f : α → FV) {n : Nat} {agg : Bool} (hf : ∀ x, (f x).fits n agg = true) (l : List α) : (l.map f).all (FV.fits n agg) = true := by
  simp [hf]
@[simp] theorem all_fits_str (l : List ByteArray) : (l.map FV.str).all (FV.fits 1 false) = true := all_fits _ (fun _ => rfl) l
@[simp] theorem all_fits_int (k : IntKind) (l : List Int) : (l.map (FV.int k)).all (FV.fits 1 false) = true := all_fits _ (fun _ => rfl) l
theorem bytes_ext {a b : ByteArray} (h : a.toList = b.toList) : a = b := by
  rw [ByteArray.toList_eq, ByteArray.toList_eq] at h
  obtain ⟨⟨x⟩⟩ := a
  obtain ⟨⟨y⟩⟩ := b
  simp at h
  rw [h]
theorem bytes_beq (a b : ByteArray) : (a.toList == b.toList) = decide (a = b) := by
  by_cases h : a = b
  · subst h; simp
  · have : a.toList ≠ b.toList := fun e => h (bytes_ext e)
    simp [h, this]
end Go.Ab
end
section
namespace Go.Ab
open Go.RowKit
section
variable {P : Program} {W W' : World} {S : Nat → Prop} {f : FuncId}
theorem ans_one {ts : List TV} {args : List Value} {e : FV} {v : Value} (hts : ∀ t ∈ ts, ∃ e, t = .fz e) (hl : ts.length = args.length) (hlt : ∀ b, S b → b < W.heap.size) (hb : Below W.heap.size W W') (hr : Rep W' (fun b => S b ∨ (W.heap.size ≤ b ∧ b < W'.heap.size)) e v) : AnsOk W S ts args [] ([.fz e], []) v W' := by
  refine ⟨⟨fun b => S b ∨ (W.heap.size ≤ b ∧ b < W'.heap.size), [v], [], rfl, fun b h => .inl h, fun b h => ?_, fun b h => ?_, ⟨none, [], ⟨rfl, hr⟩, rfl, rfl⟩, (fun c hc => by cases hc), ?_, (fun t x b n agg u hz ht => ?_)⟩, ?_⟩
  · rcases h with h | h
    · exact .inl h
    · exact .inr (.inl h.1)
  · rcases h with h | h
    · exact Nat.lt_of_lt_of_le (hlt b h) hb.size
    · exact h.2
  · clear hr hb hlt
    induction ts generalizing args with
    | nil =>
      cases args with
      | nil => rfl
      | cons x xs => cases hl
    | cons t ts ih =>
      cases args with
      | nil => cases hl
      | cons x xs =>
        obtain ⟨e, rfl⟩ := hts t (List.mem_cons_self ..)
        exact ih (fun t ht => hts t (List.mem_cons_of_mem _ ht)) (by simpa using hl)
  · subst ht
    obtain ⟨e, he⟩ := hts _ (List.of_mem_zip hz).1
    cases he
  · exact ⟨hb.os, hb.tape, hb.output, hb.size, fun b h _ => hb.block b h⟩
end
end Go.Ab
end
section
namespace Go.Ab
open Go.RowKit
section
variable {P : Program} {f : FuncId}
theorem repTs_two {W : World} {S : Nat → Prop} {e e' : FV} {args : Array Value} {Bs : List Nat} (h : RepTs W S [.fz e, .fz e'] args.toList Bs) : ∃ x y, args = #[x, y] ∧ Bs = [] ∧ Rep W S e x ∧ Rep W S e' y := by
  obtain ⟨al⟩ := args
  match al, h with
  | [x, y], h =>
    obtain ⟨B, Bs', ⟨rfl, R⟩, ⟨B2, Bs2, ⟨rfl, R2⟩, h3, hB2⟩, hB⟩ := h
    simp only [RepTs] at h3
    subst h3
    refine ⟨x, y, rfl, ?_, R, R2⟩
    simp only at hB hB2
    rw [hB, hB2]
  | [], h => exact h.elim
  | [x], h => obtain ⟨B, Bs', _, h2, _⟩ := h; exact h2.elim
  | x :: y :: z :: l, h => obtain ⟨B, Bs', _, ⟨B2, Bs2, _, h3, _⟩, _⟩ := h; exact h3.elim
theorem callOK_two {e e' r : FV} (h : ∀ (W : World) (S : Nat → Prop) (x y : Value), (∀ b, S b → b < W.heap.size) → Rep W S e x → Rep W S e' y → Calls P f #[x, y] W fun ex W' => ∃ v, ex = .returned v ∧ Below W.heap.size W W' ∧ Rep W' (fun b => S b ∨ (W.heap.size ≤ b ∧ b < W'.heap.size)) r v) : CallOK P f [.fz e, .fz e'] ([.fz r], []) := by
  intro W S args Bs hlt hglob hRT
  obtain ⟨x, y, rfl, rfl, R, R2⟩ := repTs_two hRT
  refine (h W S x y hlt R R2).mono ?_
  rintro ex W' ⟨v, rfl, hb, hr⟩
  exact ans_one (fun t ht => by
    rcases List.mem_cons.1 ht with rfl | ht
    · exact ⟨_, rfl⟩
    · exact ⟨_, List.mem_singleton.1 ht⟩) rfl hlt hb hr
def repeatP (ts : List TV) : Option Ans := match ts with
  | [.fz (.str s), .fz (.int .i64 c)] => when (decide (0 ≤ c) && Nat.ble (s.size * c.toNat) 140737488355328 && Nat.ble c.toNat 9223372036854775807) (some ([.fz (.str ⟨(Lib.repeatL s.data.toList c.toNat).toArray⟩)], []))
  | _ => none
theorem repeatP_ok (h : ∀ (s : ByteArray) (c : Nat) (w : World) (hc : c ≤ 9223372036854775807) (hlen : s.size * c ≤ 140737488355328), Calls P f #[.string s, .int .i64 c] w fun e w' => e = .returned (.string ⟨(Lib.repeatL s.data.toList c).toArray⟩) ∧ Below w.heap.size w w') : ∀ ts r, repeatP ts = some r → CallOK P f ts r := by
  intro ts r e
  unfold repeatP at e
  split at e
  · rename_i s c
    obtain ⟨hg, e⟩ := when_some e
    cases e
    simp only [Bool.and_eq_true, decide_eq_true_eq] at hg
    have hlen := Nat.le_of_ble_eq_true hg.1.2
    have hN := Nat.le_of_ble_eq_true hg.2
    have h0 := hg.1.1
    refine callOK_two fun W S x y hlt R R2 => ?_
    cases R; cases R2
    have hx := h s c.toNat W hN hlen
    rw [Int.toNat_of_nonneg h0] at hx
    refine hx.mono ?_
    rintro ex W' ⟨rfl, hb⟩
    exact ⟨_, rfl, hb, .str _⟩
  · cases e
end
end Go.Ab
end
section
namespace Go.Ab
noncomputable section
open Go.RowKit
section
variable {tab tab' : Nat → Option AFunc}
theorem run_sub (hs : ∀ f af, tab f = some af → tab' f = some af) : ∀ {k f : Nat} {ts : List TV} {r : Ans}, run tab k f ts = some r → run tab' k f ts = some r
  | 0, f, ts, r, h => by cases h
  | k + 1, f, ts, r, h => by
    simp only [run] at h ⊢
    cases ht : tab f with
    | none => rw [ht] at h; cases h
    | some af =>
      rw [ht] at h
      rw [hs f af ht]
      cases hp : af.prim with
      | some p => simp only [hp] at h ⊢; exact h
      | none =>
        simp only [hp] at h ⊢
        obtain ⟨qs, s1, f1⟩ := callF_facR h
        exact f1 (run tab' k) k (Nat.le_refl _) fun q hq => run_sub hs (s1 q hq)
theorem RR_sub (hs : ∀ f af, tab f = some af → tab' f = some af) {f : Nat} {ts : List TV} {r : Ans} (h : RR tab f ts = some r) : RR tab' f ts = some r := by
  obtain ⟨k, hk⟩ := RR_tells.1 h
  exact RR_tells.2 ⟨k, run_sub hs hk⟩
end
section
variable {P : Program} {modes : Nat → List Mode × List Mode} {lives : Nat → Code → List Nat × List Nat} {tab : Nat → Option AFunc} {W : World}
theorem rr_calls (T : TabOK P modes lives tab) {f : Nat} {fs : List FV} {args : Array Value} {e : FV} (h : RR tab f (fs.map .fz) = some ([.fz e], [])) (hG : GlobOK P W (fun b => b < W.heap.size)) (hA : RepArgs W fs args.toList) :
    Calls P f args W fun ex W' => ∃ v, ex = .returned v ∧ Below W.heap.size W W' ∧ ∃ S', Rep W' S' e v := by
  obtain ⟨k, hk⟩ := RR_tells.1 h
  have C := (run_ok T k f _ _ hk).2 W (fun b => b < W.heap.size) args [] (fun _ h => h) hG (repArgs_ts hA)
  refine C.mono fun ex W' hp => ?_
  cases ex with
  | panicked c => exact hp.elim
  | outgrown => exact hp.elim
  | returned v =>
    obtain ⟨⟨S', ys, Cs, rfl, _, _, _, hR, _, _, _⟩, hext⟩ := hp
    match ys, hR with
    | [y], hR =>
      obtain ⟨B, Bs', RT, hR', _⟩ := hR
      obtain ⟨_, Ry⟩ := RT
      exact ⟨_, rfl, ⟨hext.os, hext.tape, hext.output, hext.size, fun b hb => hext.block b hb (by simp)⟩, S', Ry⟩
    | [], hR => exact hR.elim
    | y :: y' :: ys, hR =>
      obtain ⟨B, Bs', RT, hR', _⟩ := hR
      exact hR'.elim
end
theorem builderF_below {T e : TypeId} {B b : Nat} {bs : List Value} {w w' : World} (h : Lib.IsBuilderF T e B b bs w) (k : Below w.heap.size w w') : Lib.IsBuilderF T e B b bs w' := by
  have one : ∀ p, Lib.BuilderAtF T e B b p bs w → Lib.BuilderAtF T e B b p bs w' := by
    rintro p ⟨hB, v, hb, ⟨hl, hown⟩, hne⟩
    refine ⟨hB, v, (k.block b (Array.getElem?_eq_some_iff.1 hb).1).trans hb, ⟨hl, ?_⟩, hne⟩
    rcases hown with h | ⟨g, cap, cur, fz, hv, hg, hc, rest⟩
    · exact .inl h
    · exact .inr ⟨g, cap, cur, fz, hv, hg, (k.block g (Array.getElem?_eq_some_iff.1 hc).1).trans hc, rest⟩
  exact h.imp (one _) (one _)
section
variable {P : Program} {W W' : World} {S : Nat → Prop} {f : FuncId}
theorem repTs_one {e : FV} {args : Array Value} {Bs : List Nat} (h : RepTs W S [.fz e] args.toList Bs) : ∃ x, args = #[x] ∧ Bs = [] ∧ Rep W S e x := by
  obtain ⟨l⟩ := args
  match l, h with
  | [x], h =>
    obtain ⟨B, Bs', ⟨rfl, R⟩, h3, hB⟩ := h
    simp only [RepTs] at h3
    subst h3
    exact ⟨x, rfl, hB, R⟩
  | [], h => exact h.elim
  | x :: y :: l, h => obtain ⟨B, Bs', _, h2, _⟩ := h; exact h2.elim
theorem ans_two {ts : List TV} {args : List Value} {e e' : FV} {v v' : Value} (hts : ∀ t ∈ ts, ∃ e, t = .fz e) (hl : ts.length = args.length) (hlt : ∀ b, S b → b < W.heap.size) (hb : Below W.heap.size W W') (hr : Rep W' (fun b => S b ∨ (W.heap.size ≤ b ∧ b < W'.heap.size)) e v) (hr' : Rep W' (fun b => S b ∨ (W.heap.size ≤ b ∧ b < W'.heap.size)) e' v') : AnsOk W S ts args [] ([.fz e, .fz e'], []) (.tuple #[v, v']) W' := by
  obtain ⟨⟨S', ys, Cs, h1, h2, h3, h4, h5, h6, h7, h8⟩, h9⟩ := ans_one hts hl hlt hb hr
  refine ⟨⟨fun b => S b ∨ (W.heap.size ≤ b ∧ b < W'.heap.size), [v, v'], [], rfl, fun b h => .inl h, fun b h => ?_, fun b h => ?_, ⟨none, [], ⟨rfl, hr⟩, ⟨none, [], ⟨rfl, hr'⟩, rfl, rfl⟩, rfl⟩, (fun c hc => by cases hc), ?_, (fun t x b n agg u hz ht => ?_)⟩, h9⟩
  · rcases h with h | h
    · exact .inl h
    · exact .inr (.inl h.1)
  · rcases h with h | h
    · exact Nat.lt_of_lt_of_le (hlt b h) hb.size
    · exact h.2
  · clear h7 h8 h5 hr hr' h9 h1
    induction ts generalizing args with
    | nil =>
      cases args with
      | nil => rfl
      | cons x xs => cases hl
    | cons t ts ih =>
      cases args with
      | nil => cases hl
      | cons x xs =>
        obtain ⟨e, rfl⟩ := hts t (List.mem_cons_self ..)
        exact ih (fun t ht => hts t (List.mem_cons_of_mem _ ht)) (by simpa using hl)
  · subst ht
    obtain ⟨e, he⟩ := hts _ (List.of_mem_zip hz).1
    cases he
end
section
variable {P : Program} {f : FuncId}
end
end
end Go.Ab
end
section
namespace Go.Ab
open Go.Proofs
abbrev N_law28_LedgerTexts : Nat := 3
abbrev N_ref01_Sort : Nat := 6
abbrev N_level_New : Nat := 7
abbrev N_ref01_Table : Nat := 8
abbrev N_law28_light : Nat := 9
abbrev N_law28_lives : Nat := 10
abbrev N_law28_text : Nat := 11
abbrev N_ledger_Text : Nat := 12
abbrev N_level_Lattice_Leq : Nat := 18
abbrev N_level_Lattice_Top : Nat := 19
abbrev N_level_named : Nat := 20
abbrev N_level_laid : Nat := 21
abbrev N_level_closed : Nat := 22
abbrev N_level_twisted : Nat := 23
abbrev N_level_Lattice_fill : Nat := 24
abbrev N_ref09_Light : Nat := 25
abbrev N_ref09_Is : Nat := 26
abbrev N_ref03_Signs : Nat := 27
abbrev N_law28_quote : Nat := 28
abbrev N_ref04_Text : Nat := 29
abbrev N_ref12_Text : Nat := 30
abbrev N_ledger_quoted : Nat := 32
abbrev N_ledger_number : Nat := 33
abbrev N_level_Lattice_Text : Nat := 34
abbrev N_level_Lattice_Is : Nat := 44
abbrev N_level_Name : Nat := 45
abbrev N_level_turned : Nat := 46
abbrev N_level_over : Nat := 47
abbrev N_ref09_Size : Nat := 48
abbrev N_ref09_Flat : Nat := 49
abbrev N_ref09_Labels : Nat := 50
abbrev N_ref09_right : Nat := 51
abbrev N_ref09_shape : Nat := 52
abbrev N_ref09_Strip : Nat := 53
abbrev N_ref03_Put : Nat := 54
abbrev N_ref03_Quote : Nat := 55
abbrev N_ref04_Is : Nat := 56
abbrev N_ref04_Of : Nat := 57
abbrev N_ref12_text : Nat := 58
abbrev N_ref11_Erase : Nat := 59
abbrev N_ref09_Bottom : Nat := 60
abbrev N_level_Lattice_Bottom : Nat := 62
abbrev N_num_Int : Nat := 64
abbrev N_num_Text : Nat := 65
abbrev N_level_Lattice_Size : Nat := 71
abbrev N_ref09_Deep : Nat := 72
abbrev N_ref05_Is : Nat := 73
abbrev N_ref12_body : Nat := 74
abbrev N_ref12_quote : Nat := 75
abbrev N_ref11_At : Nat := 76
abbrev N_level_Lattice_Join : Nat := 77
abbrev N_show_quoted : Nat := 80
abbrev N_utf_Valid : Nat := 81
abbrev N_utf_quoted : Nat := 82
abbrev N_num_Make : Nat := 83
abbrev N_num_Is : Nat := 84
abbrev N_num_pow : Nat := 85
abbrev N_num_digits : Nat := 86
abbrev N_ref09_Join : Nat := 90
abbrev N_ref05_zero : Nat := 91
abbrev N_ref06_Text : Nat := 92
abbrev N_ref11_sees : Nat := 93
abbrev N_ref09_Top : Nat := 94
abbrev N_utf_size : Nat := 97
abbrev N_strings_HasPrefix : Nat := 99
abbrev N_ref01_Join : Nat := 101
abbrev N_ref06_quote : Nat := 102
abbrev N_envelope_Key : Nat := 103
abbrev N_utf_tail : Nat := 104
abbrev N_internal_stringslite_HasPrefix : Nat := 107
abbrev N_show_Text : Nat := 31
abbrev N_strings_Repeat : Nat := 87
abbrev N_utf_Quote : Nat := 63
abbrev N_ledger_Lines : Nat := 13
def Lv : Nat → List (Nat × List Nat × List Nat)
  | 3 => [(8, [1, 5, 6, 8, 9, 10], [1, 4, 6, 9])]
  | 8 => [(4, [1, 3, 4, 5], [4]), (9, [1, 3, 4, 5, 6, 7], [1, 3, 4, 5, 6]), (12, [1, 3, 4, 5, 6, 7, 8], [1, 3, 4, 5, 6, 7])]
  | 9 => [(2, [0, 1, 5], [1, 4])]
  | 20 => [(4, [0, 15, 16, 17], [2]), (9, [0, 4, 15, 16, 17, 27, 28, 29], [0, 2, 15, 16, 17])]
  | 21 => [(5, [0, 1, 4, 6, 14, 15], [0, 1, 4, 6]), (10, [0, 4, 6, 23, 24, 25], [4, 5, 6])]
  | 22 => [(1, [1, 2, 4], [4]), (3, [1, 2, 4, 5, 10, 11], [1, 2, 4, 5]), (6, [1, 2, 4, 5, 6, 10, 11, 14, 15], [1, 2, 4, 5, 10, 11]), (9, [1, 2, 4, 5, 6, 7, 10, 11, 14, 15, 18, 19], [1, 2, 4, 5, 6, 10, 11, 14, 15])]
  | 23 => [(2, [2, 7, 8], [4]), (5, [2, 5, 7, 8, 11, 12], [2, 4, 7, 8])]
  | 24 => [(3, [0, 1, 5, 14, 15], [0, 1, 4]), (6, [0, 1, 5, 6, 14, 15, 18, 19], [0, 1, 4, 5, 14, 15]), (15, [0, 71, 72], [])]
  | 27 => [(3, [0, 4, 5], [2, 3, 4]), (15, [0, 4, 5, 7, 8, 9], [0, 2, 3, 4, 5, 7, 8])]
  | 29 => [(6, [1, 3, 4, 5], [3, 4])]
  | 45 => [(4, [0, 15, 16], [2])]
  | 46 => [(3, [1, 2, 3, 6], [2, 3]), (6, [1, 2, 3, 4, 6, 9], [1, 2, 3, 6])]
  | 47 => [(2, [1, 2, 3, 4, 12, 13], [8]), (7, [1, 2, 3, 4, 9, 10, 12, 13, 30, 31], [1, 2, 3, 4, 9, 10, 12, 13])]
  | 48 => [(5, [1, 2, 3, 7], [1])]
  | 49 => [(4, [1, 2, 5], [4])]
  | 50 => [(4, [0, 3, 5], [4])]
  | 51 => [(4, [0, 3, 5], [4])]
  | 52 => [(6, [1, 3, 4], [1, 3]), (12, [1, 5], [2])]
  | 53 => [(7, [1, 2, 3, 4], [2, 3])]
  | 55 => [(4, [0, 3, 4, 5], [4])]
  | 57 => [(3, [0, 2, 3], [2, 3])]
  | 60 => [(2, [0, 3], [2]), (6, [0, 3, 4, 5], [0, 3, 4])]
  | 72 => [(3, [0, 3, 5, 6], [5])]
  | 73 => [(7, [1, 2, 7], [1, 2, 4]), (13, [1, 2, 10], [4])]
  | 74 => [(7, [0, 3, 5, 6], [3, 5])]
  | 76 => [(9, [0, 3, 5, 8, 9, 11, 12], [0, 8, 11])]
  | 81 => [(1, [0], [2])]
  | 83 => [(3, [0, 1, 4], [0, 1, 4])]
  | 85 => [(3, [3, 4, 5], [3])]
  | 86 => [(3, [0, 3, 4], [2])]
  | 92 => [(14, [1, 3, 4], [1, 3])]
  | 94 => [(2, [0, 3], [2]), (6, [0, 3, 4, 5], [0, 3, 4])]
  | 101 => [(3, [0, 1, 2, 7, 8], [7]), (7, [0, 1, 2, 7, 8, 9, 10], [0, 1, 2, 7, 8, 9])]
  | 104 => [(4, [0, 1, 9], [8])]
  | _ => []
def Tv : Nat → List (Nat × List Nat × List Nat)
  | 9 => [(4, [0, 1, 5], [0]), (6, [0, 1, 5], [0])]
  | 11 => [(3, [0, 1, 5, 7, 8, 18], [0]), (4, [0, 1, 5, 7, 8], [0]), (5, [0, 1, 5, 7, 8, 33], [0]), (6, [0, 1, 5, 7, 8], [0])]
  | 12 => [(4, [0, 3, 5], [0])]
  | 20 => [(3, [0], [0])]
  | 21 => [(14, [0, 4, 6, 9, 23, 24, 25], [0])]
  | 27 => [(7, [0, 4, 5, 6, 7, 8, 25], [0]), (12, [0, 4, 5, 6, 7, 8], [0]), (14, [0, 4, 5, 7, 8], [0]), (20, [0, 4, 5, 7, 8, 9, 10], [0]), (23, [0, 4, 5, 7, 8], [0])]
  | 29 => [(8, [1, 3, 4, 5], [0]), (11, [1, 3, 4, 5, 6], [0]), (13, [1, 3, 4, 5, 6], [0])]
  | 45 => [(3, [0], [0]), (8, [0, 3, 4, 5, 15, 16], [0]), (9, [0, 3, 5, 6, 15, 16], [0])]
  | 47 => [(5, [1, 2, 3, 4, 9, 12, 13], [0])]
  | 50 => [(3, [0, 3], [0])]
  | 52 => [(5, [1, 3], [0])]
  | 55 => [(24, [0, 3, 4, 5, 6, 7], [0])]
  | 56 => [(3, [1], [0])]
  | 57 => [(7, [0, 2, 3, 4], [0])]
  | 65 => [(6, [1, 3, 4], [0])]
  | 73 => [(3, [1, 2], [0]), (6, [1, 2], [0])]
  | 74 => [(4, [0, 3, 23], [0]), (5, [0, 3], [0]), (11, [0, 3, 5, 6], [0]), (15, [0, 3, 5, 6, 7], [0]), (16, [0, 3, 5, 6], [0])]
  | 77 => [(3, [0, 1, 2], [0])]
  | 83 => [(3, [0, 1, 4], [0]), (4, [0, 1, 4], [0])]
  | 84 => [(3, [1], [0])]
  | 91 => [(3, [1], [0])]
  | 92 => [(18, [1, 3, 4], [0]), (20, [1, 3, 4], [0])]
  | 97 => [(5, [0, 3, 9], [0]), (7, [0, 3, 20], [0]), (8, [0, 3, 20], [0]), (9, [0, 3, 20], [0]), (11, [0, 3, 47], [0]), (12, [0, 3, 47], [0])]
  | 101 => [(6, [0, 1, 2, 7, 8, 9], [0])]
  | 104 => [(3, [0, 1], [0])]
  | _ => []
noncomputable def mds : Nat → List Mode × List Mode
  | 3 => ([.fz, .fz], [.fz])
  | 6 => ([.fz], [.fz])
  | 7 => ([.fz], [.fz, .fz])
  | 8 => ([.fz], [.fz])
  | 9 => ([.fz, .fz], [.fz])
  | 10 => ([], [.fz])
  | 11 => ([.fz, .fz, .fz], [.fz])
  | 12 => ([.fz, .fz], [.fz])
  | 18 => ([.fz, .fz, .fz], [.fz])
  | 19 => ([.fz], [.fz])
  | 20 => ([.fz], [.fz])
  | 21 => ([.fz, .fz], [.fz, .fz])
  | 22 => ([.fz, .fz], [.fz])
  | 23 => ([.fz, .fz], [.fz])
  | 24 => ([.pv 195 true, .fz], [.fz])
  | 25 => ([.fz, .fz], [.fz])
  | 26 => ([.fz, .fz], [.fz])
  | 27 => ([.fz], [.fz, .fz])
  | 28 => ([.fz], [.fz])
  | 29 => ([.fz], [.fz])
  | 30 => ([.fz, .fz, .fz, .fz], [.fz])
  | 32 => ([.fz], [.fz])
  | 33 => ([.fz], [.fz])
  | 34 => ([.fz, .fz], [.fz])
  | 44 => ([.fz, .fz], [.fz])
  | 45 => ([.fz], [.fz])
  | 46 => ([.fz], [.fz])
  | 47 => ([.fz, .fz, .fz, .fz], [.fz])
  | 48 => ([.fz, .fz, .fz], [.fz])
  | 49 => ([.fz, .fz], [.fz])
  | 50 => ([.fz, .fz], [.fz])
  | 51 => ([.fz, .fz], [.fz])
  | 52 => ([.fz], [.fz])
  | 53 => ([.fz], [.fz])
  | 54 => ([.fz], [.fz])
  | 55 => ([.fz], [.fz])
  | 56 => ([.fz], [.fz])
  | 57 => ([.fz], [.fz])
  | 58 => ([.fz, .fz, .fz], [.fz])
  | 59 => ([.fz, .fz, .fz], [.fz])
  | 60 => ([.fz], [.fz])
  | 62 => ([.fz], [.fz])
  | 64 => ([.fz], [.fz, .fz])
  | 65 => ([.fz], [.fz])
  | 71 => ([.fz], [.fz])
  | 72 => ([.fz, .fz], [.fz])
  | 73 => ([.fz, .fz], [.fz])
  | 74 => ([.fz, .fz], [.fz])
  | 75 => ([.fz], [.fz])
  | 76 => ([.fz, .fz, .fz, .fz], [.fz])
  | 77 => ([.fz, .fz, .fz], [.fz])
  | 80 => ([.fz], [.fz])
  | 81 => ([.fz], [.fz])
  | 82 => ([.fz], [.fz])
  | 83 => ([.fz, .fz], [.fz, .fz])
  | 84 => ([.fz], [.fz])
  | 85 => ([.fz], [.fz])
  | 86 => ([.fz], [.fz])
  | 90 => ([.fz, .fz, .fz], [.fz])
  | 91 => ([.fz], [.fz])
  | 92 => ([.fz], [.fz])
  | 93 => ([.fz, .fz, .fz], [.fz])
  | 94 => ([.fz], [.fz])
  | 97 => ([.fz], [.fz])
  | 99 => ([.fz, .fz], [.fz])
  | 101 => ([.fz, .fz, .fz], [.fz])
  | 102 => ([.fz], [.fz])
  | 103 => ([.fz], [.fz])
  | 104 => ([.fz, .fz, .fz, .fz], [.fz])
  | 107 => ([.fz, .fz], [.fz])
  | 31 => ([.fz, .fz, .fz, .fz], [.fz, .fz])
  | 87 => ([.fz, .fz], [.fz])
  | 63 => ([.fz], [.fz, .fz])
  | 13 => ([.fz, .fz], [.fz])
  | _ => ([], [])
noncomputable def codeOf (f : Nat) (fn : Func) : ACode := match compF Try.prog mds (livesBy Lv Tv f) f fn with
  | some a => a.body
  | none => .skip
def ACode.at : ACode → List Nat → ACode
  | c, [] => c
  | .seq a _, 0 :: p => a.at p
  | .seq _ b, _ :: p => b.at p
  | .cond _ a _, 0 :: p => a.at p
  | .cond _ _ b, _ :: p => b.at p
  | .block _ c, _ :: p => c.at p
  | .loop _ _ c, _ :: p => c.at p
  | .trim _ c, _ :: p => c.at p
  | c, _ => c
end Go.Ab
end
section
namespace Go.Ab
open Go.Proofs FV TV
set_option maxRecDepth 100000
noncomputable section
def C_law28_LedgerTexts : ACode := codeOf 3 Try.f3
def A_law28_LedgerTexts_b1 : ACode := C_law28_LedgerTexts.at [1, 1, 1, 1, 1, 1, 0, 1, 0, 0]
def A_law28_LedgerTexts_s1 : ACode := C_law28_LedgerTexts.at [1, 1, 1, 1, 1, 1, 1]
def A_law28_LedgerTexts : AFunc := ⟨2, [(.tmp 4, .fz)], C_law28_LedgerTexts, none⟩
def K_law28_LedgerTexts_1 (R : Orc) (k : Nat) (w : Bool) : AExit → St → Option Ans := (kBlk 0 (kSeq R k w [] A_law28_LedgerTexts_s1 (kFin R [(.tmp 4, .fz)] [])))
def L_law28_LedgerTexts_1_0 (R : Orc) (k : Nat) (w : Bool) (n : Nat) (a : List FV) (b c : FV) (d : ByteArray) (e : Int) (f : FV) := loopL R k w [] [1, 5, 6, 8, 9, 10] [1, 4, 6, 9] A_law28_LedgerTexts_b1 n ⟨[(1, .fz (.sl a)), (5, .ptr 4096 0 0), (6, .fz b), (8, .fz c), (9, .fz (.str d)), (10, .fz (.int .i64 e))], [(4095, .dead), (4096, .var 3 true (.fz f))]⟩
def X_law28_LedgerTexts_1_0 (a : List FV) (b : Bool) (c : FV) (d : ByteArray) : St := ⟨[(1, .fz (.sl a)), (4, .fz (.bool b)), (6, .fz c), (9, .fz (.str d))], [(4095, .dead)]⟩
def X_law28_LedgerTexts_1_1 (a : List FV) (b : FV) (c : ByteArray) : St := ⟨[(1, .fz (.sl a)), (6, .fz b), (9, .fz (.str c))], [(4095, .dead)]⟩
theorem E_law28_LedgerTexts (R : Orc) (k : Nat) (w : Bool) (a : Int) (b : List FV) : callL R k w A_law28_LedgerTexts [.fz (.int .i64 a), .fz (.sl b)] = onR (R N_ref01_Sort [.fz (.int .i64 a)]) fun r0 => when (List.isEmpty r0.2 && allF [.fz] r0.1) (when (fits 3 true (toF (List.getD r0.1 0 em))) (onR (R N_level_New [.fz (toF (List.getD r0.1 0 em))]) fun r1 => when (List.isEmpty r1.2 && allF [.fz, .fz] r1.1) (when (isInt .i64 (toF (List.getD r1.1 1 em))) (onR (R N_ref01_Table [.fz (toF (List.getD r0.1 0 em))]) fun r2 => when (List.isEmpty r2.2 && allF [.fz] r2.1) (onR (R N_law28_light [.fz (toF (List.getD r2.1 0 em)), .fz (.sl b)]) fun r3 => when (List.isEmpty r3.2 && allF [.fz] r3.1) (when (isBool (toF (List.getD r3.1 0 em))) (ifB (!(toBool (toF (List.getD r3.1 0 em))))
 (onR (R N_law28_lives []) fun r4 => when (List.isEmpty r4.2 && allF [.fz] r4.1) (when (isBool (toF (List.getD r4.1 0 em))) (some ([.fz (.bool (toBool (toF (List.getD r4.1 0 em))))], []))))
 (onL (L_law28_LedgerTexts_1_0 R k w k b (toF (List.getD r1.1 0 em)) (toF (List.getD r2.1 0 em)) (⟨#[]⟩ : ByteArray) 0 (toF (List.getD r0.1 0 em))) (K_law28_LedgerTexts_1 R k w))))))))) := by kernel_rfl
theorem L_law28_LedgerTexts_1_0_eq (R : Orc) (k : Nat) (w : Bool) (n : Nat) (a : List FV) (b c : FV) (d : ByteArray) (e : Int) (f : FV) : L_law28_LedgerTexts_1_0 R k w (n + 1) a b c d e f = ifB (decide (e < (List.length a : Int)))
 (when (isAg 3 f) (when ((decide (0 ≤ e)) && (decide (e < (List.length a : Int)))) (when (fits 12 true (List.getD a (Int.toNat e) nilp)) (onR (R N_law28_text [.fz c, .fz (cell f 0), .fz (List.getD a (Int.toNat e) nilp)]) fun r5 => when (List.isEmpty r5.2 && allF [.fz] r5.1) (when (isStr (toF (List.getD r5.1 0 em))) (ifB (decide ((ByteArray.size (toStr (toF (List.getD r5.1 0 em))) : Int) > 60000))
 (onR (R N_law28_lives []) fun r6 => when (List.isEmpty r6.2 && allF [.fz] r6.1) (when (isBool (toF (List.getD r6.1 0 em))) (some (.ret, X_law28_LedgerTexts_1_0 a (toBool (toF (List.getD r6.1 0 em))) b d))))
 (when ((decide (0 ≤ e)) && (decide (e < (List.length a : Int)))) (when (fits 12 true (List.getD a (Int.toNat e) nilp)) (onR (R N_ledger_Text [.fz b, .fz (List.getD a (Int.toNat e) nilp)]) fun r7 => when (List.isEmpty r7.2 && allF [.fz] r7.1) (when (isStr (toF (List.getD r7.1 0 em))) (ifB (!(ByteArray.toList (toStr (toF (List.getD r7.1 0 em))) == ByteArray.toList (toStr (toF (List.getD r5.1 0 em)))))
 (some (.ret, X_law28_LedgerTexts_1_0 a false b d))
 (when (decide (ByteArray.size d + ByteArray.size (toStr (toF (List.getD r5.1 0 em))) ≤ 2 ^ 62)) (when (decide (ByteArray.size (d ++ (toStr (toF (List.getD r5.1 0 em)))) + ByteArray.size (⟨#[10]⟩ : ByteArray) ≤ 2 ^ 62)) (L_law28_LedgerTexts_1_0 R k w n a b c ((d ++ (toStr (toF (List.getD r5.1 0 em)))) ++ (⟨#[10]⟩ : ByteArray)) (IntKind.wrap .i64 (e + 1)) f))))))))))))))
 (some ((.exit 0), X_law28_LedgerTexts_1_1 a b d)) := by kernel_rfl
theorem X_law28_LedgerTexts_1_0_eq (R : Orc) (k : Nat) (w : Bool) (a : List FV) (b : Bool) (c : FV) (d : ByteArray) : K_law28_LedgerTexts_1 R k w .ret (X_law28_LedgerTexts_1_0 a b c d) = some ([.fz (.bool b)], []) := by kernel_rfl
theorem X_law28_LedgerTexts_1_1_eq (R : Orc) (k : Nat) (w : Bool) (a : List FV) (b : FV) (c : ByteArray) : K_law28_LedgerTexts_1 R k w (.exit 0) (X_law28_LedgerTexts_1_1 a b c) = onR (R N_ledger_Lines [.fz b, .fz (.sl a)]) fun r8 => when (List.isEmpty r8.2 && allF [.fz] r8.1) (when (isStr (toF (List.getD r8.1 0 em))) (ifB (ByteArray.toList (toStr (toF (List.getD r8.1 0 em))) == ByteArray.toList c)
 (onR (R N_law28_lives []) fun r9 => when (List.isEmpty r9.2 && allF [.fz] r9.1) (when (isBool (toF (List.getD r9.1 0 em))) (some ([.fz (.bool (toBool (toF (List.getD r9.1 0 em))))], []))))
 (some ([.fz (.bool false)], [])))) := by kernel_rfl
def C_ref01_Sort : ACode := codeOf 6 Try.f6
def A_ref01_Sort : AFunc := ⟨1, [(.cell 2 3 true, .fz)], C_ref01_Sort, none⟩
theorem E_ref01_Sort (R : Orc) (k : Nat) (w : Bool) (a : Int) : callL R k w A_ref01_Sort [.fz (.int .i64 a)] = ifB ((Int.tmod (IntKind.wrap .i64 ((Int.tmod a 6) + 6)) 6) == 0)
 (some ([.fz (.ag [(.sl [(.str (⟨#[108, 111, 119]⟩ : ByteArray)), (.str (⟨#[104, 105, 103, 104]⟩ : ByteArray))]), (.sl [(.ag [.int .i64 0, .int .i64 1])]), .sl []])], []))
 (ifB ((Int.tmod (IntKind.wrap .i64 ((Int.tmod a 6) + 6)) 6) == 1)
 (some ([.fz (.ag [(.sl [(.str (⟨#[108, 111, 119]⟩ : ByteArray)), (.str (⟨#[108, 101, 102, 116]⟩ : ByteArray)), (.str (⟨#[114, 105, 103, 104, 116]⟩ : ByteArray)), (.str (⟨#[104, 105, 103, 104]⟩ : ByteArray))]), (.sl [(.ag [.int .i64 0, .int .i64 1]), (.ag [.int .i64 0, .int .i64 2]), (.ag [.int .i64 1, .int .i64 3]), (.ag [.int .i64 2, .int .i64 3])]), .sl []])], []))
 (ifB ((Int.tmod (IntKind.wrap .i64 ((Int.tmod a 6) + 6)) 6) == 2)
 (some ([.fz (.ag [(.sl [(.str (⟨#[97]⟩ : ByteArray)), (.str (⟨#[98]⟩ : ByteArray)), (.str (⟨#[99]⟩ : ByteArray))]), (.sl [(.ag [.int .i64 0, .int .i64 1]), (.ag [.int .i64 1, .int .i64 2])]), .sl []])], []))
 (ifB ((Int.tmod (IntKind.wrap .i64 ((Int.tmod a 6) + 6)) 6) == 3)
 (some ([.fz (.ag [(.sl [(.str (⟨#[111, 110, 101]⟩ : ByteArray))]), .sl [], .sl []])], []))
 (ifB ((Int.tmod (IntKind.wrap .i64 ((Int.tmod a 6) + 6)) 6) == 4)
 (some ([.fz (.ag [(.sl [(.str (⟨#[116, 111, 112]⟩ : ByteArray)), (.str (⟨#[120]⟩ : ByteArray)), (.str (⟨#[121]⟩ : ByteArray)), (.str (⟨#[122]⟩ : ByteArray)), (.str (⟨#[98, 111, 116]⟩ : ByteArray))]), (.sl [(.ag [.int .i64 4, .int .i64 1]), (.ag [.int .i64 4, .int .i64 2]), (.ag [.int .i64 4, .int .i64 3]), (.ag [.int .i64 1, .int .i64 0]), (.ag [.int .i64 2, .int .i64 0]), (.ag [.int .i64 3, .int .i64 0])]), .sl []])], []))
 (some ([.fz (.ag [(.sl [(.str (⟨#[111]⟩ : ByteArray)), (.str (⟨#[112]⟩ : ByteArray)), (.str (⟨#[113]⟩ : ByteArray)), (.str (⟨#[114]⟩ : ByteArray)), (.str (⟨#[112, 113]⟩ : ByteArray)), (.str (⟨#[112, 114]⟩ : ByteArray)), (.str (⟨#[113, 114]⟩ : ByteArray)), (.str (⟨#[97, 108, 108]⟩ : ByteArray))]), (.sl [(.ag [.int .i64 0, .int .i64 1]), (.ag [.int .i64 0, .int .i64 2]), (.ag [.int .i64 0, .int .i64 3]), (.ag [.int .i64 1, .int .i64 4]), (.ag [.int .i64 2, .int .i64 4]), (.ag [.int .i64 1, .int .i64 5]), (.ag [.int .i64 3, .int .i64 5]), (.ag [.int .i64 2, .int .i64 6]), (.ag [.int .i64 3, .int .i64 6]), (.ag [.int .i64 4, .int .i64 7]), (.ag [.int .i64 5, .int .i64 7]), (.ag [.int .i64 6, .int .i64 7])]), .sl []])], [])))))) := by kernel_rfl
def C_level_New : ACode := codeOf 7 Try.f7
def A_level_New : AFunc := ⟨1, [(.tmp 2, .fz), (.tmp 3, .fz)], C_level_New, none⟩
theorem E_level_New (R : Orc) (k : Nat) (w : Bool) (a b c : List FV) : callL R k w A_level_New [.fz (.ag [.sl a, .sl b, .sl c])] = onR (R N_level_named [.fz (.sl a)]) fun r0 => when (List.isEmpty r0.2 && allF [.fz] r0.1) (when (isBool (toF (List.getD r0.1 0 em))) (ifB (!(toBool (toF (List.getD r0.1 0 em))))
 (some ([.fz nilp, .fz (.int .i64 10)], []))
 (onR (R N_level_laid [.fz (.int .i64 (List.length a : Int)), .fz (.sl b)]) fun r1 => when (List.isEmpty r1.2 && allF [.fz, .fz] r1.1) (when (isBool (toF (List.getD r1.1 1 em))) (when (fits 64 true (toF (List.getD r1.1 0 em))) (ifB (!(toBool (toF (List.getD r1.1 1 em))))
 (some ([.fz nilp, .fz (.int .i64 2)], []))
 (when (List.all a (fits 1 false)) (when (decide (((0 : Nat) + List.length a) * 16 ≤ roomy) && decide ((0 : Nat) + List.length a ≤ roomy)) (onR (R N_level_closed [.fz (toF (List.getD r1.1 0 em)), .fz (.int .i64 (List.length a : Int))]) fun r2 => when (List.isEmpty r2.2 && allF [.fz] r2.1) (when (isAg 64 (toF (List.getD r2.1 0 em))) (onR (R N_level_twisted [.fz (.ag [(cell (toF (List.getD r2.1 0 em)) 0), (cell (toF (List.getD r2.1 0 em)) 1), (cell (toF (List.getD r2.1 0 em)) 2), (cell (toF (List.getD r2.1 0 em)) 3), (cell (toF (List.getD r2.1 0 em)) 4), (cell (toF (List.getD r2.1 0 em)) 5), (cell (toF (List.getD r2.1 0 em)) 6), (cell (toF (List.getD r2.1 0 em)) 7), (cell (toF (List.getD r2.1 0 em)) 8), (cell (toF (List.getD r2.1 0 em)) 9), (cell (toF (List.getD r2.1 0 em)) 10), (cell (toF (List.getD r2.1 0 em)) 11), (cell (toF (List.getD r2.1 0 em)) 12), (cell (toF (List.getD r2.1 0 em)) 13), (cell (toF (List.getD r2.1 0 em)) 14), (cell (toF (List.getD r2.1 0 em)) 15), (cell (toF (List.getD r2.1 0 em)) 16), (cell (toF (List.getD r2.1 0 em)) 17), (cell (toF (List.getD r2.1 0 em)) 18), (cell (toF (List.getD r2.1 0 em)) 19), (cell (toF (List.getD r2.1 0 em)) 20), (cell (toF (List.getD r2.1 0 em)) 21), (cell (toF (List.getD r2.1 0 em)) 22), (cell (toF (List.getD r2.1 0 em)) 23), (cell (toF (List.getD r2.1 0 em)) 24), (cell (toF (List.getD r2.1 0 em)) 25), (cell (toF (List.getD r2.1 0 em)) 26), (cell (toF (List.getD r2.1 0 em)) 27), (cell (toF (List.getD r2.1 0 em)) 28), (cell (toF (List.getD r2.1 0 em)) 29), (cell (toF (List.getD r2.1 0 em)) 30), (cell (toF (List.getD r2.1 0 em)) 31), (cell (toF (List.getD r2.1 0 em)) 32), (cell (toF (List.getD r2.1 0 em)) 33), (cell (toF (List.getD r2.1 0 em)) 34), (cell (toF (List.getD r2.1 0 em)) 35), (cell (toF (List.getD r2.1 0 em)) 36), (cell (toF (List.getD r2.1 0 em)) 37), (cell (toF (List.getD r2.1 0 em)) 38), (cell (toF (List.getD r2.1 0 em)) 39), (cell (toF (List.getD r2.1 0 em)) 40), (cell (toF (List.getD r2.1 0 em)) 41), (cell (toF (List.getD r2.1 0 em)) 42), (cell (toF (List.getD r2.1 0 em)) 43), (cell (toF (List.getD r2.1 0 em)) 44), (cell (toF (List.getD r2.1 0 em)) 45), (cell (toF (List.getD r2.1 0 em)) 46), (cell (toF (List.getD r2.1 0 em)) 47), (cell (toF (List.getD r2.1 0 em)) 48), (cell (toF (List.getD r2.1 0 em)) 49), (cell (toF (List.getD r2.1 0 em)) 50), (cell (toF (List.getD r2.1 0 em)) 51), (cell (toF (List.getD r2.1 0 em)) 52), (cell (toF (List.getD r2.1 0 em)) 53), (cell (toF (List.getD r2.1 0 em)) 54), (cell (toF (List.getD r2.1 0 em)) 55), (cell (toF (List.getD r2.1 0 em)) 56), (cell (toF (List.getD r2.1 0 em)) 57), (cell (toF (List.getD r2.1 0 em)) 58), (cell (toF (List.getD r2.1 0 em)) 59), (cell (toF (List.getD r2.1 0 em)) 60), (cell (toF (List.getD r2.1 0 em)) 61), (cell (toF (List.getD r2.1 0 em)) 62), (cell (toF (List.getD r2.1 0 em)) 63)]), .fz (.int .i64 (List.length a : Int))]) fun r3 => when (List.isEmpty r3.2 && allF [.fz] r3.1) (when (isBool (toF (List.getD r3.1 0 em))) (ifB (toBool (toF (List.getD r3.1 0 em)))
 (some ([.fz nilp, .fz (.int .i64 9)], []))
 (onR (R N_level_Lattice_fill [.pv 195 true (.fz (.ag [.sl a, (cell (toF (List.getD r2.1 0 em)) 0), (cell (toF (List.getD r2.1 0 em)) 1), (cell (toF (List.getD r2.1 0 em)) 2), (cell (toF (List.getD r2.1 0 em)) 3), (cell (toF (List.getD r2.1 0 em)) 4), (cell (toF (List.getD r2.1 0 em)) 5), (cell (toF (List.getD r2.1 0 em)) 6), (cell (toF (List.getD r2.1 0 em)) 7), (cell (toF (List.getD r2.1 0 em)) 8), (cell (toF (List.getD r2.1 0 em)) 9), (cell (toF (List.getD r2.1 0 em)) 10), (cell (toF (List.getD r2.1 0 em)) 11), (cell (toF (List.getD r2.1 0 em)) 12), (cell (toF (List.getD r2.1 0 em)) 13), (cell (toF (List.getD r2.1 0 em)) 14), (cell (toF (List.getD r2.1 0 em)) 15), (cell (toF (List.getD r2.1 0 em)) 16), (cell (toF (List.getD r2.1 0 em)) 17), (cell (toF (List.getD r2.1 0 em)) 18), (cell (toF (List.getD r2.1 0 em)) 19), (cell (toF (List.getD r2.1 0 em)) 20), (cell (toF (List.getD r2.1 0 em)) 21), (cell (toF (List.getD r2.1 0 em)) 22), (cell (toF (List.getD r2.1 0 em)) 23), (cell (toF (List.getD r2.1 0 em)) 24), (cell (toF (List.getD r2.1 0 em)) 25), (cell (toF (List.getD r2.1 0 em)) 26), (cell (toF (List.getD r2.1 0 em)) 27), (cell (toF (List.getD r2.1 0 em)) 28), (cell (toF (List.getD r2.1 0 em)) 29), (cell (toF (List.getD r2.1 0 em)) 30), (cell (toF (List.getD r2.1 0 em)) 31), (cell (toF (List.getD r2.1 0 em)) 32), (cell (toF (List.getD r2.1 0 em)) 33), (cell (toF (List.getD r2.1 0 em)) 34), (cell (toF (List.getD r2.1 0 em)) 35), (cell (toF (List.getD r2.1 0 em)) 36), (cell (toF (List.getD r2.1 0 em)) 37), (cell (toF (List.getD r2.1 0 em)) 38), (cell (toF (List.getD r2.1 0 em)) 39), (cell (toF (List.getD r2.1 0 em)) 40), (cell (toF (List.getD r2.1 0 em)) 41), (cell (toF (List.getD r2.1 0 em)) 42), (cell (toF (List.getD r2.1 0 em)) 43), (cell (toF (List.getD r2.1 0 em)) 44), (cell (toF (List.getD r2.1 0 em)) 45), (cell (toF (List.getD r2.1 0 em)) 46), (cell (toF (List.getD r2.1 0 em)) 47), (cell (toF (List.getD r2.1 0 em)) 48), (cell (toF (List.getD r2.1 0 em)) 49), (cell (toF (List.getD r2.1 0 em)) 50), (cell (toF (List.getD r2.1 0 em)) 51), (cell (toF (List.getD r2.1 0 em)) 52), (cell (toF (List.getD r2.1 0 em)) 53), (cell (toF (List.getD r2.1 0 em)) 54), (cell (toF (List.getD r2.1 0 em)) 55), (cell (toF (List.getD r2.1 0 em)) 56), (cell (toF (List.getD r2.1 0 em)) 57), (cell (toF (List.getD r2.1 0 em)) 58), (cell (toF (List.getD r2.1 0 em)) 59), (cell (toF (List.getD r2.1 0 em)) 60), (cell (toF (List.getD r2.1 0 em)) 61), (cell (toF (List.getD r2.1 0 em)) 62), (cell (toF (List.getD r2.1 0 em)) 63), .int .i64 0, .int .i64 0, .int .i64 0, .int .i64 0, .int .i64 0, .int .i64 0, .int .i64 0, .int .i64 0, .int .i64 0, .int .i64 0, .int .i64 0, .int .i64 0, .int .i64 0, .int .i64 0, .int .i64 0, .int .i64 0, .int .i64 0, .int .i64 0, .int .i64 0, .int .i64 0, .int .i64 0, .int .i64 0, .int .i64 0, .int .i64 0, .int .i64 0, .int .i64 0, .int .i64 0, .int .i64 0, .int .i64 0, .int .i64 0, .int .i64 0, .int .i64 0, .int .i64 0, .int .i64 0, .int .i64 0, .int .i64 0, .int .i64 0, .int .i64 0, .int .i64 0, .int .i64 0, .int .i64 0, .int .i64 0, .int .i64 0, .int .i64 0, .int .i64 0, .int .i64 0, .int .i64 0, .int .i64 0, .int .i64 0, .int .i64 0, .int .i64 0, .int .i64 0, .int .i64 0, .int .i64 0, .int .i64 0, .int .i64 0, .int .i64 0, .int .i64 0, .int .i64 0, .int .i64 0, .int .i64 0, .int .i64 0, .int .i64 0, .int .i64 0, .int .i64 0, .int .i64 0, .int .i64 0, .int .i64 0, .int .i64 0, .int .i64 0, .int .i64 0, .int .i64 0, .int .i64 0, .int .i64 0, .int .i64 0, .int .i64 0, .int .i64 0, .int .i64 0, .int .i64 0, .int .i64 0, .int .i64 0, .int .i64 0, .int .i64 0, .int .i64 0, .int .i64 0, .int .i64 0, .int .i64 0, .int .i64 0, .int .i64 0, .int .i64 0, .int .i64 0, .int .i64 0, .int .i64 0, .int .i64 0, .int .i64 0, .int .i64 0, .int .i64 0, .int .i64 0, .int .i64 0, .int .i64 0, .int .i64 0, .int .i64 0, .int .i64 0, .int .i64 0, .int .i64 0, .int .i64 0, .int .i64 0, .int .i64 0, .int .i64 0, .int .i64 0, .int .i64 0, .int .i64 0, .int .i64 0, .int .i64 0, .int .i64 0, .int .i64 0, .int .i64 0, .int .i64 0, .int .i64 0, .int .i64 0, .int .i64 0, .int .i64 0, .int .i64 0, .int .i64 0, .int .i64 0, .int .i64 0, .int .i64 0, .int .i64 0, .int .i64 0, .int .i64 0])), .fz (.int .i64 (List.length a : Int))]) fun r4 => when (List.length r4.2 == 1 && (List.all r4.2 LV.isFz && List.length r4.1 == 1)) (when (TV.isF (List.getD r4.1 0 em)) (when (isBool (toF (List.getD r4.1 0 em))) (ifB (!(toBool (toF (List.getD r4.1 0 em))))
 (some ([.fz nilp, .fz (.int .i64 9)], []))
 (some ([.fz (.pt 195 true (LV.toFz (List.getD r4.2 0 LV.nils)) 0), .fz (.int .i64 0)], []))))))))))))))))))) := by kernel_rfl
def C_ref01_Table : ACode := codeOf 8 Try.f8
def A_ref01_Table_b1 : ACode := C_ref01_Table.at [1, 1, 1, 0, 1, 0, 0, 1, 0, 0, 1, 1, 0, 1, 0, 0, 1, 0, 0, 1, 0, 0]
def A_ref01_Table_s1 : ACode := C_ref01_Table.at [1, 1, 1, 0, 1, 0, 0, 1, 0, 0, 1, 1, 0, 1, 0, 0, 1, 1]
def A_ref01_Table_b2 : ACode := C_ref01_Table.at [1, 1, 1, 0, 1, 0, 0, 1, 0, 0, 1, 1, 0, 1, 0, 0]
def A_ref01_Table_s2 : ACode := C_ref01_Table.at [1, 1, 1, 0, 1, 0, 0, 1, 0, 0, 1, 1, 1]
def A_ref01_Table_s3 : ACode := C_ref01_Table.at [1, 1, 1, 0, 1, 0, 0, 1, 1]
def A_ref01_Table_b3 : ACode := C_ref01_Table.at [1, 1, 1, 0, 1, 0, 0]
def A_ref01_Table_s4 : ACode := C_ref01_Table.at [1, 1, 1, 1]
def A_ref01_Table : AFunc := ⟨1, [(.tmp 2, .fz)], C_ref01_Table, none⟩
def K_ref01_Table_3 (R : Orc) (k : Nat) (w : Bool) : AExit → St → Option Ans := (kBlk 0 (kSeq R k w [] A_ref01_Table_s4 (kFin R [(.tmp 2, .fz)] [])))
def L_ref01_Table_3_0 (R : Orc) (k : Nat) (w : Bool) (n : Nat) (a b : Int) (c d e : List FV) := loopL R k w [] [1, 3, 4, 5] [4] A_ref01_Table_b3 n ⟨[(1, .ptr 4096 0 0), (3, .fz (.int .i64 a)), (4, .nils), (5, .fz (.int .i64 b))], [(4095, .dead), (4096, .var 3 true (.fz (.ag [.sl c, .sl d, .sl e])))]⟩
def K_ref01_Table_2 (R : Orc) (k : Nat) (w : Bool) (n : Nat) : AExit → St → Option (AExit × St) := (kBlk 2 (kSeq R k w [] A_ref01_Table_s2 (kBlk 1 (kSeq R k w [] A_ref01_Table_s3 (kLoop R k w [] [1, 3, 4, 5] [4] A_ref01_Table_b3 n)))))
def L_ref01_Table_2_0 (R : Orc) (k : Nat) (w : Bool) (n : Nat) (a b c : Int) (d e f g : List FV) := loopL R k w [] [1, 3, 4, 5, 6, 7] [1, 3, 4, 5, 6] A_ref01_Table_b2 n ⟨[(1, .ptr 4096 0 0), (3, .fz (.int .i64 a)), (4, .nils), (5, .fz (.int .i64 b)), (6, .rw 4097), (7, .fz (.int .i64 c))], [(4095, .dead), (4096, .var 3 true (.fz (.ag [.sl d, .sl e, .sl f]))), (4097, .row 1 false g)]⟩
def X_ref01_Table_3_0 : St := ⟨[(4, .nils)], [(4095, .dead)]⟩
def K_ref01_Table_1 (R : Orc) (k : Nat) (w : Bool) (n : Nat) : AExit → St → Option (AExit × St) := (kBlk 4 (kBlk 3 (kSeq R k w [] A_ref01_Table_s1 (kLoop R k w [] [1, 3, 4, 5, 6, 7] [1, 3, 4, 5, 6] A_ref01_Table_b2 n))))
def L_ref01_Table_1_0 (R : Orc) (k : Nat) (w : Bool) (n : Nat) (a b c d : Int) (e f g h : List FV) := loopL R k w [] [1, 3, 4, 5, 6, 7, 8] [1, 3, 4, 5, 6, 7] A_ref01_Table_b1 n ⟨[(1, .ptr 4096 0 0), (3, .fz (.int .i64 a)), (4, .nils), (5, .fz (.int .i64 b)), (6, .rw 4097), (7, .fz (.int .i64 c)), (8, .fz (.int .i64 d))], [(4095, .dead), (4096, .var 3 true (.fz (.ag [.sl e, .sl f, .sl g]))), (4097, .row 1 false h)]⟩
def X_ref01_Table_2_0 (a b : Int) (c d e f : List FV) : St := ⟨[(1, .ptr 4096 0 0), (3, .fz (.int .i64 a)), (4, .nils), (5, .fz (.int .i64 b)), (6, .rw 4097)], [(4095, .dead), (4096, .var 3 true (.fz (.ag [.sl c, .sl d, .sl e]))), (4097, .row 1 false f)]⟩
def X_ref01_Table_1_0 (a b c : Int) (d e f g : List FV) : St := ⟨[(1, .ptr 4096 0 0), (3, .fz (.int .i64 a)), (4, .nils), (5, .fz (.int .i64 b)), (6, .rw 4097), (7, .fz (.int .i64 c))], [(4095, .dead), (4096, .var 3 true (.fz (.ag [.sl d, .sl e, .sl f]))), (4097, .row 1 false g)]⟩
def L_ref01_Table_3_1 (R : Orc) (k : Nat) (w : Bool) (n : Nat) (a b : Int) (c d e f : List FV) := loopL R k w [] [1, 3, 4, 5] [4] A_ref01_Table_b3 n ⟨[(1, .ptr 4096 0 0), (3, .fz (.int .i64 a)), (4, .rw 4097), (5, .fz (.int .i64 b))], [(4095, .dead), (4096, .var 3 true (.fz (.ag [.sl c, .sl d, .sl e]))), (4097, .row 1 false f)]⟩
def L_ref01_Table_2_1 (R : Orc) (k : Nat) (w : Bool) (n : Nat) (a b c : Int) (d e f g h : List FV) := loopL R k w [] [1, 3, 4, 5, 6, 7] [1, 3, 4, 5, 6] A_ref01_Table_b2 n ⟨[(1, .ptr 4096 0 0), (3, .fz (.int .i64 a)), (4, .rw 4097), (5, .fz (.int .i64 b)), (6, .rw 4098), (7, .fz (.int .i64 c))], [(4095, .dead), (4096, .var 3 true (.fz (.ag [.sl d, .sl e, .sl f]))), (4097, .row 1 false g), (4098, .row 1 false h)]⟩
def X_ref01_Table_3_1 (a : List FV) : St := ⟨[(4, .rw 4096)], [(4095, .dead), (4096, .row 1 false a)]⟩
def L_ref01_Table_1_1 (R : Orc) (k : Nat) (w : Bool) (n : Nat) (a b c d : Int) (e f g h i : List FV) := loopL R k w [] [1, 3, 4, 5, 6, 7, 8] [1, 3, 4, 5, 6, 7] A_ref01_Table_b1 n ⟨[(1, .ptr 4096 0 0), (3, .fz (.int .i64 a)), (4, .rw 4097), (5, .fz (.int .i64 b)), (6, .rw 4098), (7, .fz (.int .i64 c)), (8, .fz (.int .i64 d))], [(4095, .dead), (4096, .var 3 true (.fz (.ag [.sl e, .sl f, .sl g]))), (4097, .row 1 false h), (4098, .row 1 false i)]⟩
def X_ref01_Table_2_1 (a b : Int) (c d e f g : List FV) : St := ⟨[(1, .ptr 4096 0 0), (3, .fz (.int .i64 a)), (4, .rw 4097), (5, .fz (.int .i64 b)), (6, .rw 4098)], [(4095, .dead), (4096, .var 3 true (.fz (.ag [.sl c, .sl d, .sl e]))), (4097, .row 1 false f), (4098, .row 1 false g)]⟩
def X_ref01_Table_1_1 (a b c : Int) (d e f g h : List FV) : St := ⟨[(1, .ptr 4096 0 0), (3, .fz (.int .i64 a)), (4, .rw 4097), (5, .fz (.int .i64 b)), (6, .rw 4098), (7, .fz (.int .i64 c))], [(4095, .dead), (4096, .var 3 true (.fz (.ag [.sl d, .sl e, .sl f]))), (4097, .row 1 false g), (4098, .row 1 false h)]⟩
theorem E_ref01_Table (R : Orc) (k : Nat) (w : Bool) (a b c : List FV) : callL R k w A_ref01_Table [.fz (.ag [.sl a, .sl b, .sl c])] = onL (L_ref01_Table_3_0 R k w k (List.length a : Int) 0 a b c) (K_ref01_Table_3 R k w) := by kernel_rfl
theorem L_ref01_Table_3_0_eq (R : Orc) (k : Nat) (w : Bool) (n : Nat) (a b : Int) (c d e : List FV) : L_ref01_Table_3_0 R k w (n + 1) a b c d e = ifB (decide (b < a))
 (when (decide (0 ≤ a) && (decide (a ≤ a) && (decide (1 * a ≤ roomy) && decide (a ≤ roomy)))) (when ((decide (0 ≤ b)) && (decide (b < (List.length (List.replicate (Int.toNat a) (FV.bool false)) : Int)))) (when (Nat.blt (Int.toNat b) (List.length (List.replicate (Int.toNat a) (FV.bool false)))) (onL (L_ref01_Table_2_0 R k w k a b 0 c d e (List.set (List.replicate (Int.toNat a) (FV.bool false)) (Int.toNat b) (FV.bool true))) (K_ref01_Table_2 R k w n)))))
 (some ((.exit 0), X_ref01_Table_3_0)) := by kernel_rfl
theorem L_ref01_Table_2_0_eq (R : Orc) (k : Nat) (w : Bool) (n : Nat) (a b c : Int) (d e f g : List FV) : L_ref01_Table_2_0 R k w (n + 1) a b c d e f g = ifB (decide (c < a))
 (onL (L_ref01_Table_1_0 R k w k a b c 0 d e f g) (K_ref01_Table_1 R k w n))
 (some ((.exit 2), X_ref01_Table_2_0 a b d e f g)) := by kernel_rfl
theorem X_ref01_Table_3_0_eq (R : Orc) (k : Nat) (w : Bool) : K_ref01_Table_3 R k w (.exit 0) (X_ref01_Table_3_0) = some ([.fz (.sl [])], []) := by kernel_rfl
theorem L_ref01_Table_1_0_eq (R : Orc) (k : Nat) (w : Bool) (n : Nat) (a b c d : Int) (e f g h : List FV) : L_ref01_Table_1_0 R k w (n + 1) a b c d e f g h = ifB (decide (d < (List.length f : Int)))
 (when ((decide (0 ≤ d)) && (decide (d < (List.length f : Int)))) (when (fits 2 true (List.getD f (Int.toNat d) nilp)) (when (isAg 2 (List.getD f (Int.toNat d) nilp)) (when (isInt .i64 (cell (List.getD f (Int.toNat d) nilp) 0)) (when ((decide (0 ≤ (toInt (cell (List.getD f (Int.toNat d) nilp) 0)))) && (decide ((toInt (cell (List.getD f (Int.toNat d) nilp) 0)) < (List.length h : Int)))) (when (Nat.blt (Int.toNat (toInt (cell (List.getD f (Int.toNat d) nilp) 0))) (List.length h)) (when (isBool (List.getD h (Int.toNat (toInt (cell (List.getD f (Int.toNat d) nilp) 0))) nilp)) (ifB (toBool (List.getD h (Int.toNat (toInt (cell (List.getD f (Int.toNat d) nilp) 0))) nilp))
 (when ((decide (0 ≤ d)) && (decide (d < (List.length f : Int)))) (when (fits 2 true (List.getD f (Int.toNat d) nilp)) (when (isAg 2 (List.getD f (Int.toNat d) nilp)) (when (isInt .i64 (cell (List.getD f (Int.toNat d) nilp) 1)) (when ((decide (0 ≤ (toInt (cell (List.getD f (Int.toNat d) nilp) 1)))) && (decide ((toInt (cell (List.getD f (Int.toNat d) nilp) 1)) < (List.length h : Int)))) (when (Nat.blt (Int.toNat (toInt (cell (List.getD f (Int.toNat d) nilp) 1))) (List.length h)) (L_ref01_Table_1_0 R k w n a b c (IntKind.wrap .i64 (d + 1)) e f g (List.set h (Int.toNat (toInt (cell (List.getD f (Int.toNat d) nilp) 1))) (.bool true)))))))))
 (L_ref01_Table_1_0 R k w n a b c (IntKind.wrap .i64 (d + 1)) e f g h)))))))))
 (some ((.exit 4), X_ref01_Table_1_0 a b c e f g h)) := by kernel_rfl
theorem X_ref01_Table_2_0_eq (R : Orc) (k : Nat) (w : Bool) (n : Nat) (a b : Int) (c d e f : List FV) : K_ref01_Table_2 R k w n (.exit 2) (X_ref01_Table_2_0 a b c d e f) = when (decide (((0 : Nat) + List.length [FV.sl f]) * 24 ≤ roomy) && decide ((0 : Nat) + List.length [FV.sl f] ≤ roomy)) (L_ref01_Table_3_1 R k w n a (IntKind.wrap .i64 (b + 1)) c d e [.sl f]) := by kernel_rfl
theorem X_ref01_Table_1_0_eq (R : Orc) (k : Nat) (w : Bool) (n : Nat) (a b c : Int) (d e f g : List FV) : K_ref01_Table_1 R k w n (.exit 4) (X_ref01_Table_1_0 a b c d e f g) = L_ref01_Table_2_0 R k w n a b (IntKind.wrap .i64 (c + 1)) d e f g := by kernel_rfl
theorem L_ref01_Table_3_1_eq (R : Orc) (k : Nat) (w : Bool) (n : Nat) (a b : Int) (c d e f : List FV) : L_ref01_Table_3_1 R k w (n + 1) a b c d e f = ifB (decide (b < a))
 (when (decide (0 ≤ a) && (decide (a ≤ a) && (decide (1 * a ≤ roomy) && decide (a ≤ roomy)))) (when ((decide (0 ≤ b)) && (decide (b < (List.length (List.replicate (Int.toNat a) (FV.bool false)) : Int)))) (when (Nat.blt (Int.toNat b) (List.length (List.replicate (Int.toNat a) (FV.bool false)))) (onL (L_ref01_Table_2_1 R k w k a b 0 c d e f (List.set (List.replicate (Int.toNat a) (FV.bool false)) (Int.toNat b) (FV.bool true))) (K_ref01_Table_2 R k w n)))))
 (some ((.exit 0), X_ref01_Table_3_1 f)) := by kernel_rfl
theorem L_ref01_Table_2_1_eq (R : Orc) (k : Nat) (w : Bool) (n : Nat) (a b c : Int) (d e f g h : List FV) : L_ref01_Table_2_1 R k w (n + 1) a b c d e f g h = ifB (decide (c < a))
 (onL (L_ref01_Table_1_1 R k w k a b c 0 d e f g h) (K_ref01_Table_1 R k w n))
 (some ((.exit 2), X_ref01_Table_2_1 a b d e f g h)) := by kernel_rfl
theorem X_ref01_Table_3_1_eq (R : Orc) (k : Nat) (w : Bool) (a : List FV) : K_ref01_Table_3 R k w (.exit 0) (X_ref01_Table_3_1 a) = some ([.fz (.sl a)], []) := by kernel_rfl
theorem L_ref01_Table_1_1_eq (R : Orc) (k : Nat) (w : Bool) (n : Nat) (a b c d : Int) (e f g h i : List FV) : L_ref01_Table_1_1 R k w (n + 1) a b c d e f g h i = ifB (decide (d < (List.length f : Int)))
 (when ((decide (0 ≤ d)) && (decide (d < (List.length f : Int)))) (when (fits 2 true (List.getD f (Int.toNat d) nilp)) (when (isAg 2 (List.getD f (Int.toNat d) nilp)) (when (isInt .i64 (cell (List.getD f (Int.toNat d) nilp) 0)) (when ((decide (0 ≤ (toInt (cell (List.getD f (Int.toNat d) nilp) 0)))) && (decide ((toInt (cell (List.getD f (Int.toNat d) nilp) 0)) < (List.length i : Int)))) (when (Nat.blt (Int.toNat (toInt (cell (List.getD f (Int.toNat d) nilp) 0))) (List.length i)) (when (isBool (List.getD i (Int.toNat (toInt (cell (List.getD f (Int.toNat d) nilp) 0))) nilp)) (ifB (toBool (List.getD i (Int.toNat (toInt (cell (List.getD f (Int.toNat d) nilp) 0))) nilp))
 (when ((decide (0 ≤ d)) && (decide (d < (List.length f : Int)))) (when (fits 2 true (List.getD f (Int.toNat d) nilp)) (when (isAg 2 (List.getD f (Int.toNat d) nilp)) (when (isInt .i64 (cell (List.getD f (Int.toNat d) nilp) 1)) (when ((decide (0 ≤ (toInt (cell (List.getD f (Int.toNat d) nilp) 1)))) && (decide ((toInt (cell (List.getD f (Int.toNat d) nilp) 1)) < (List.length i : Int)))) (when (Nat.blt (Int.toNat (toInt (cell (List.getD f (Int.toNat d) nilp) 1))) (List.length i)) (L_ref01_Table_1_1 R k w n a b c (IntKind.wrap .i64 (d + 1)) e f g h (List.set i (Int.toNat (toInt (cell (List.getD f (Int.toNat d) nilp) 1))) (.bool true)))))))))
 (L_ref01_Table_1_1 R k w n a b c (IntKind.wrap .i64 (d + 1)) e f g h i)))))))))
 (some ((.exit 4), X_ref01_Table_1_1 a b c e f g h i)) := by kernel_rfl
theorem X_ref01_Table_2_1_eq (R : Orc) (k : Nat) (w : Bool) (n : Nat) (a b : Int) (c d e f g : List FV) : K_ref01_Table_2 R k w n (.exit 2) (X_ref01_Table_2_1 a b c d e f g) = when (decide ((List.length f + List.length [FV.sl g]) * 24 ≤ roomy) && decide (List.length f + List.length [FV.sl g] ≤ roomy)) (L_ref01_Table_3_1 R k w n a (IntKind.wrap .i64 (b + 1)) c d e (f ++ [FV.sl g])) := by kernel_rfl
theorem X_ref01_Table_1_1_eq (R : Orc) (k : Nat) (w : Bool) (n : Nat) (a b c : Int) (d e f g h : List FV) : K_ref01_Table_1 R k w n (.exit 4) (X_ref01_Table_1_1 a b c d e f g h) = L_ref01_Table_2_1 R k w n a b (IntKind.wrap .i64 (c + 1)) d e f g h := by kernel_rfl
def C_law28_light : ACode := codeOf 9 Try.f9
def A_law28_light_j1 : ACode := C_law28_light.at [1, 0, 1, 0, 0, 1, 0, 0, 0, 1, 0]
def A_law28_light_s2 : ACode := C_law28_light.at [1, 0, 1, 0, 0, 1, 0, 1]
def A_law28_light_j3 : ACode := C_law28_light.at [1, 0, 1, 0, 0, 1, 0]
def A_law28_light_b1 : ACode := C_law28_light.at [1, 0, 1, 0, 0]
def A_law28_light_s4 : ACode := C_law28_light.at [1, 1]
def A_law28_light : AFunc := ⟨2, [(.tmp 4, .fz)], C_law28_light, none⟩
def K_law28_light_1 (R : Orc) (k : Nat) (w : Bool) : AExit → St → Option Ans := (kBlk 0 (kSeq R k w [] A_law28_light_s4 (kFin R [(.tmp 4, .fz)] [])))
def L_law28_light_1_0 (R : Orc) (k : Nat) (w : Bool) (n : Nat) (a b : List FV) (c : Int) := loopL R k w [] [0, 1, 5] [1, 4] A_law28_light_b1 n ⟨[(0, .fz (.sl a)), (1, .fz (.sl b)), (5, .fz (.int .i64 c))], [(4095, .dead)]⟩
def J_law28_light_3_0 (R : Orc) (k : Nat) (w : Bool) (n : Nat) (a b : List FV) (c : Int) := execL R k w [] A_law28_light_j3 (AExit × St) ⟨[(0, .fz (.sl a)), (1, .fz (.sl b)), (5, .fz (.int .i64 c))], [(4095, .dead)]⟩ (kLoop R k w [] [0, 1, 5] [1, 4] A_law28_light_b1 n)
def X_law28_light_1_0 (a : List FV) : St := ⟨[(1, .fz (.sl a))], [(4095, .dead)]⟩
def X_law28_light_1_1 (a : List FV) (b : Bool) : St := ⟨[(1, .fz (.sl a)), (4, .fz (.bool b))], [(4095, .dead)]⟩
def J_law28_light_1_0 (R : Orc) (k : Nat) (w : Bool) (n : Nat) (a b : List FV) (c : Int) := execL R k w [] A_law28_light_j1 (AExit × St) ⟨[(0, .fz (.sl a)), (1, .fz (.sl b)), (5, .fz (.int .i64 c))], [(4095, .dead)]⟩ (kBlk 1 (kSeq R k w [] A_law28_light_s2 (kLoop R k w [] [0, 1, 5] [1, 4] A_law28_light_b1 n)))
theorem E_law28_light (R : Orc) (k : Nat) (w : Bool) (a b : List FV) : callL R k w A_law28_light [.fz (.sl a), .fz (.sl b)] = onL (L_law28_light_1_0 R k w k a b 0) (K_law28_light_1 R k w) := by kernel_rfl
theorem L_law28_light_1_0_eq (R : Orc) (k : Nat) (w : Bool) (n : Nat) (a b : List FV) (c : Int) : L_law28_light_1_0 R k w (n + 1) a b c = ifB (decide (c < (List.length b : Int)))
 (ifB (decide (c < 20))
 (jump w (J_law28_light_3_0 R k w n a b c))
 (some ((.exit 0), X_law28_light_1_0 b)))
 (some ((.exit 0), X_law28_light_1_0 b)) := by kernel_rfl
theorem J_law28_light_3_0_eq (R : Orc) (k : Nat) (w : Bool) (n : Nat) (a b : List FV) (c : Int) : J_law28_light_3_0 R k w n a b c = when ((decide (0 ≤ c)) && (decide (c < (List.length b : Int)))) (when (fits 12 true (List.getD b (Int.toNat c) nilp)) (when (isAg 12 (List.getD b (Int.toNat c) nilp)) (onR (R N_ref09_Light [.fz (.ag [(cell (List.getD b (Int.toNat c) nilp) 4), (cell (List.getD b (Int.toNat c) nilp) 5), (cell (List.getD b (Int.toNat c) nilp) 6), (cell (List.getD b (Int.toNat c) nilp) 7), (cell (List.getD b (Int.toNat c) nilp) 8), (cell (List.getD b (Int.toNat c) nilp) 9), (cell (List.getD b (Int.toNat c) nilp) 10), (cell (List.getD b (Int.toNat c) nilp) 11)]), .fz (.int .i64 100)]) fun r0 => when (List.isEmpty r0.2 && allF [.fz] r0.1) (when (isBool (toF (List.getD r0.1 0 em))) (ifB (!(toBool (toF (List.getD r0.1 0 em))))
 (some (.ret, X_law28_light_1_1 b false))
 (when ((decide (0 ≤ c)) && (decide (c < (List.length b : Int)))) (when (fits 12 true (List.getD b (Int.toNat c) nilp)) (when (isAg 12 (List.getD b (Int.toNat c) nilp)) (onR (R N_ref09_Is [.fz (.sl a), .fz (.ag [(cell (List.getD b (Int.toNat c) nilp) 4), (cell (List.getD b (Int.toNat c) nilp) 5), (cell (List.getD b (Int.toNat c) nilp) 6), (cell (List.getD b (Int.toNat c) nilp) 7), (cell (List.getD b (Int.toNat c) nilp) 8), (cell (List.getD b (Int.toNat c) nilp) 9), (cell (List.getD b (Int.toNat c) nilp) 10), (cell (List.getD b (Int.toNat c) nilp) 11)])]) fun r1 => when (List.isEmpty r1.2 && allF [.fz] r1.1) (when (isBool (toF (List.getD r1.1 0 em))) (ifB (!(toBool (toF (List.getD r1.1 0 em))))
 (some (.ret, X_law28_light_1_1 b false))
 (jump w (J_law28_light_1_0 R k w n a b c))))))))))))) := by kernel_rfl
theorem X_law28_light_1_0_eq (R : Orc) (k : Nat) (w : Bool) (a : List FV) : K_law28_light_1 R k w (.exit 0) (X_law28_light_1_0 a) = some ([.fz (.bool (decide ((List.length a : Int) ≤ 20)))], []) := by kernel_rfl
theorem X_law28_light_1_1_eq (R : Orc) (k : Nat) (w : Bool) (a : List FV) (b : Bool) : K_law28_light_1 R k w .ret (X_law28_light_1_1 a b) = some ([.fz (.bool b)], []) := by kernel_rfl
theorem J_law28_light_1_0_eq (R : Orc) (k : Nat) (w : Bool) (n : Nat) (a b : List FV) (c : Int) : J_law28_light_1_0 R k w n a b c = when ((decide (0 ≤ c)) && (decide (c < (List.length b : Int)))) (when (fits 12 true (List.getD b (Int.toNat c) nilp)) (when (isAg 12 (List.getD b (Int.toNat c) nilp)) (when (isStr (cell (List.getD b (Int.toNat c) nilp) 0)) (onR (R N_ref03_Signs [.fz (.str (toStr (cell (List.getD b (Int.toNat c) nilp) 0)))]) fun r2 => when (List.isEmpty r2.2 && allF [.fz, .fz] r2.1) (when (isBool (toF (List.getD r2.1 1 em))) (ifB (!(toBool (toF (List.getD r2.1 1 em))))
 (some (.ret, X_law28_light_1_1 b false))
 (when ((decide (0 ≤ c)) && (decide (c < (List.length b : Int)))) (when (fits 12 true (List.getD b (Int.toNat c) nilp)) (when (isAg 12 (List.getD b (Int.toNat c) nilp)) (when (isStr (cell (List.getD b (Int.toNat c) nilp) 0)) (ifB (decide ((ByteArray.size (toStr (cell (List.getD b (Int.toNat c) nilp) 0)) : Int) > 100))
 (some (.ret, X_law28_light_1_1 b false))
 (when ((decide (0 ≤ c)) && (decide (c < (List.length b : Int)))) (when (fits 12 true (List.getD b (Int.toNat c) nilp)) (when (isAg 12 (List.getD b (Int.toNat c) nilp)) (when (isInt .i64 (cell (List.getD b (Int.toNat c) nilp) 1)) (ifB (decide ((toInt (cell (List.getD b (Int.toNat c) nilp) 1)) < 0))
 (some (.ret, X_law28_light_1_1 b false))
 (when ((decide (0 ≤ c)) && (decide (c < (List.length b : Int)))) (when (fits 12 true (List.getD b (Int.toNat c) nilp)) (when (isAg 12 (List.getD b (Int.toNat c) nilp)) (when (isInt .i64 (cell (List.getD b (Int.toNat c) nilp) 1)) (ifB (decide ((toInt (cell (List.getD b (Int.toNat c) nilp) 1)) > 1000000))
 (some (.ret, X_law28_light_1_1 b false))
 (L_law28_light_1_0 R k w n a b (IntKind.wrap .i64 (c + 1)))))))))))))))))))))))) := by kernel_rfl
def C_law28_lives : ACode := codeOf 10 Try.f10
def A_law28_lives : AFunc := ⟨0, [(.tmp 0, .fz)], C_law28_lives, none⟩
theorem E_law28_lives (R : Orc) (k : Nat) (w : Bool) : callL R k w A_law28_lives [] = onR (R N_ref01_Sort [.fz (.int .i64 0)]) fun r0 => when (List.isEmpty r0.2 && allF [.fz] r0.1) (onR (R N_level_New [.fz (toF (List.getD r0.1 0 em))]) fun r1 => when (List.isEmpty r1.2 && allF [.fz, .fz] r1.1) (when (isInt .i64 (toF (List.getD r1.1 1 em))) (onR (R N_ledger_Text [.fz (toF (List.getD r1.1 0 em)), .fz (.ag [(.str (⟨#[97, 110, 110]⟩ : ByteArray)), .int .i64 0, .int .i64 1, .int .i64 0, .int .i64 0, .int .i64 0, .int .i64 3, .int .i64 1, .int .i64 0, (.str (⟨#[]⟩ : ByteArray)), .sl [], .sl []])]) fun r2 => when (List.isEmpty r2.2 && allF [.fz] r2.1) (when (isStr (toF (List.getD r2.1 0 em))) (some ([.fz (.bool (ByteArray.toList (toStr (toF (List.getD r2.1 0 em))) == ByteArray.toList (⟨#[123, 34, 98, 121, 34, 58, 34, 97, 110, 110, 34, 44, 34, 97, 116, 34, 58, 48, 44, 34, 102, 114, 111, 109, 34, 58, 34, 104, 105, 103, 104, 34, 44, 34, 116, 111, 34, 58, 34, 108, 111, 119, 34, 44, 34, 118, 97, 108, 117, 101, 34, 58, 49, 125]⟩ : ByteArray)))], [])))))) := by kernel_rfl
def C_law28_text : ACode := codeOf 11 Try.f11
def A_law28_text_j1 : ACode := C_law28_text.at [1, 1, 0, 1, 0]
def A_law28_text_j2 : ACode := C_law28_text.at [1, 1, 1, 0, 0, 1, 0]
def A_law28_text_j3 : ACode := C_law28_text.at [1, 1, 1, 0, 1, 0]
def A_law28_text_s4 : ACode := C_law28_text.at [1, 1, 1, 0, 1]
def A_law28_text_j5 : ACode := C_law28_text.at [1, 1, 1, 0]
def A_law28_text_s6 : ACode := C_law28_text.at [1, 1, 1]
def A_law28_text : AFunc := ⟨3, [(.tmp 6, .fz)], C_law28_text, none⟩
def J_law28_text_1_0 (R : Orc) (k : Nat) (w : Bool) (a b : List FV) (c d : ByteArray) (e : Bool) (f : ByteArray) (g h i j l m o p : Int) (q : ByteArray) (s t : List FV) := execL R k w [] A_law28_text_j1 Ans ⟨[(0, .fz (.sl a)), (1, .fz (.sl b)), (5, .ptr 4096 0 0), (7, .fz (.str c)), (8, .fz (.str d)), (18, .fz (.bool e))], [(4095, .dead), (4096, .var 12 true (.fz (.ag [.str f, .int .i64 g, .int .i64 h, .int .i64 i, .int .i64 j, .int .i64 l, .int .i64 m, .int .i64 o, .int .i64 p, .str q, .sl s, .sl t])))]⟩ (kSeq R k w [] A_law28_text_s6 (kFin R [(.tmp 6, .fz)] []))
def J_law28_text_5_0 (R : Orc) (k : Nat) (w : Bool) (a b : List FV) (c d e : ByteArray) (f g h i j l m o : Int) (p : ByteArray) (q s : List FV) := execL R k w [] A_law28_text_j5 Ans ⟨[(0, .fz (.sl a)), (1, .fz (.sl b)), (5, .ptr 4096 0 0), (7, .fz (.str c)), (8, .fz (.str d))], [(4095, .dead), (4096, .var 12 true (.fz (.ag [.str e, .int .i64 f, .int .i64 g, .int .i64 h, .int .i64 i, .int .i64 j, .int .i64 l, .int .i64 m, .int .i64 o, .str p, .sl q, .sl s])))]⟩ (kFin R [(.tmp 6, .fz)] [])
def J_law28_text_2_0 (R : Orc) (k : Nat) (w : Bool) (a b : List FV) (c d : ByteArray) (e : Bool) (f : ByteArray) (g h i j l m o p : Int) (q : ByteArray) (s t : List FV) := execL R k w [] A_law28_text_j2 Ans ⟨[(0, .fz (.sl a)), (1, .fz (.sl b)), (5, .ptr 4096 0 0), (7, .fz (.str c)), (8, .fz (.str d)), (33, .fz (.bool e))], [(4095, .dead), (4096, .var 12 true (.fz (.ag [.str f, .int .i64 g, .int .i64 h, .int .i64 i, .int .i64 j, .int .i64 l, .int .i64 m, .int .i64 o, .int .i64 p, .str q, .sl s, .sl t])))]⟩ (kSeq R k w [] A_law28_text_s4 (kFin R [(.tmp 6, .fz)] []))
def J_law28_text_3_0 (R : Orc) (k : Nat) (w : Bool) (a b : List FV) (c d e : ByteArray) (f g h i j l m o : Int) (p : ByteArray) (q s : List FV) := execL R k w [] A_law28_text_j3 Ans ⟨[(0, .fz (.sl a)), (1, .fz (.sl b)), (5, .ptr 4096 0 0), (7, .fz (.str c)), (8, .fz (.str d))], [(4095, .dead), (4096, .var 12 true (.fz (.ag [.str e, .int .i64 f, .int .i64 g, .int .i64 h, .int .i64 i, .int .i64 j, .int .i64 l, .int .i64 m, .int .i64 o, .str p, .sl q, .sl s])))]⟩ (kFin R [(.tmp 6, .fz)] [])
theorem E_law28_text (R : Orc) (k : Nat) (w : Bool) (a b : List FV) (c : ByteArray) (d e f g h i j l : Int) (m : ByteArray) (o p : List FV) : callL R k w A_law28_text [.fz (.sl a), .fz (.sl b), .fz (.ag [.str c, .int .i64 d, .int .i64 e, .int .i64 f, .int .i64 g, .int .i64 h, .int .i64 i, .int .i64 j, .int .i64 l, .str m, .sl o, .sl p])] = ifB (decide (e ≥ 0))
 (jump w (J_law28_text_1_0 R k w a b (⟨#[]⟩ : ByteArray) (⟨#[]⟩ : ByteArray) (decide (e < (List.length b : Int))) c d e f g h i j l m o p))
 (jump w (J_law28_text_1_0 R k w a b (⟨#[]⟩ : ByteArray) (⟨#[]⟩ : ByteArray) false c d e f g h i j l m o p)) := by kernel_rfl
theorem J_law28_text_1_0_eq (R : Orc) (k : Nat) (w : Bool) (a b : List FV) (c d : ByteArray) (e : Bool) (f : ByteArray) (g h i j l m o p : Int) (q : ByteArray) (s t : List FV) : J_law28_text_1_0 R k w a b c d e f g h i j l m o p q s t = ifB e
 (when ((decide (0 ≤ h)) && (decide (h < (List.length b : Int)))) (when (fits 1 false (List.getD b (Int.toNat h) nilp)) (when (isStr (List.getD b (Int.toNat h) nilp)) (jump w (J_law28_text_5_0 R k w a b (toStr (List.getD b (Int.toNat h) nilp)) d f g h i j l m o p q s t)))))
 (jump w (J_law28_text_5_0 R k w a b c d f g h i j l m o p q s t)) := by kernel_rfl
theorem J_law28_text_5_0_eq (R : Orc) (k : Nat) (w : Bool) (a b : List FV) (c d e : ByteArray) (f g h i j l m o : Int) (p : ByteArray) (q s : List FV) : J_law28_text_5_0 R k w a b c d e f g h i j l m o p q s = ifB (decide (h ≥ 0))
 (jump w (J_law28_text_2_0 R k w a b c d (decide (h < (List.length b : Int))) e f g h i j l m o p q s))
 (jump w (J_law28_text_2_0 R k w a b c d false e f g h i j l m o p q s)) := by kernel_rfl
theorem J_law28_text_2_0_eq (R : Orc) (k : Nat) (w : Bool) (a b : List FV) (c d : ByteArray) (e : Bool) (f : ByteArray) (g h i j l m o p : Int) (q : ByteArray) (s t : List FV) : J_law28_text_2_0 R k w a b c d e f g h i j l m o p q s t = ifB e
 (when ((decide (0 ≤ i)) && (decide (i < (List.length b : Int)))) (when (fits 1 false (List.getD b (Int.toNat i) nilp)) (when (isStr (List.getD b (Int.toNat i) nilp)) (jump w (J_law28_text_3_0 R k w a b c (toStr (List.getD b (Int.toNat i) nilp)) f g h i j l m o p q s t)))))
 (jump w (J_law28_text_3_0 R k w a b c d f g h i j l m o p q s t)) := by kernel_rfl
theorem J_law28_text_3_0_eq (R : Orc) (k : Nat) (w : Bool) (a b : List FV) (c d e : ByteArray) (f g h i j l m o : Int) (p : ByteArray) (q s : List FV) : J_law28_text_3_0 R k w a b c d e f g h i j l m o p q s = onR (R N_law28_quote [.fz (.str e)]) fun r0 => when (List.isEmpty r0.2 && allF [.fz] r0.1) (when (isStr (toF (List.getD r0.1 0 em))) (when (decide (ByteArray.size (⟨#[123, 34, 98, 121, 34, 58]⟩ : ByteArray) + ByteArray.size (toStr (toF (List.getD r0.1 0 em))) ≤ 2 ^ 62)) (when (decide (ByteArray.size ((⟨#[123, 34, 98, 121, 34, 58]⟩ : ByteArray) ++ (toStr (toF (List.getD r0.1 0 em)))) + ByteArray.size (⟨#[44, 34, 97, 116, 34, 58]⟩ : ByteArray) ≤ 2 ^ 62)) (onR (R N_ref04_Text [.fz (.ag [.int .i64 f, .int .i64 0])]) fun r1 => when (List.isEmpty r1.2 && allF [.fz] r1.1) (when (isStr (toF (List.getD r1.1 0 em))) (when (decide (ByteArray.size (((⟨#[123, 34, 98, 121, 34, 58]⟩ : ByteArray) ++ (toStr (toF (List.getD r0.1 0 em)))) ++ (⟨#[44, 34, 97, 116, 34, 58]⟩ : ByteArray)) + ByteArray.size (toStr (toF (List.getD r1.1 0 em))) ≤ 2 ^ 62)) (when (decide (ByteArray.size ((((⟨#[123, 34, 98, 121, 34, 58]⟩ : ByteArray) ++ (toStr (toF (List.getD r0.1 0 em)))) ++ (⟨#[44, 34, 97, 116, 34, 58]⟩ : ByteArray)) ++ (toStr (toF (List.getD r1.1 0 em)))) + ByteArray.size (⟨#[44, 34, 102, 114, 111, 109, 34, 58]⟩ : ByteArray) ≤ 2 ^ 62)) (onR (R N_law28_quote [.fz (.str c)]) fun r2 => when (List.isEmpty r2.2 && allF [.fz] r2.1) (when (isStr (toF (List.getD r2.1 0 em))) (when (decide (ByteArray.size (((((⟨#[123, 34, 98, 121, 34, 58]⟩ : ByteArray) ++ (toStr (toF (List.getD r0.1 0 em)))) ++ (⟨#[44, 34, 97, 116, 34, 58]⟩ : ByteArray)) ++ (toStr (toF (List.getD r1.1 0 em)))) ++ (⟨#[44, 34, 102, 114, 111, 109, 34, 58]⟩ : ByteArray)) + ByteArray.size (toStr (toF (List.getD r2.1 0 em))) ≤ 2 ^ 62)) (when (decide (ByteArray.size ((((((⟨#[123, 34, 98, 121, 34, 58]⟩ : ByteArray) ++ (toStr (toF (List.getD r0.1 0 em)))) ++ (⟨#[44, 34, 97, 116, 34, 58]⟩ : ByteArray)) ++ (toStr (toF (List.getD r1.1 0 em)))) ++ (⟨#[44, 34, 102, 114, 111, 109, 34, 58]⟩ : ByteArray)) ++ (toStr (toF (List.getD r2.1 0 em)))) + ByteArray.size (⟨#[44, 34, 116, 111, 34, 58]⟩ : ByteArray) ≤ 2 ^ 62)) (onR (R N_law28_quote [.fz (.str d)]) fun r3 => when (List.isEmpty r3.2 && allF [.fz] r3.1) (when (isStr (toF (List.getD r3.1 0 em))) (when (decide (ByteArray.size (((((((⟨#[123, 34, 98, 121, 34, 58]⟩ : ByteArray) ++ (toStr (toF (List.getD r0.1 0 em)))) ++ (⟨#[44, 34, 97, 116, 34, 58]⟩ : ByteArray)) ++ (toStr (toF (List.getD r1.1 0 em)))) ++ (⟨#[44, 34, 102, 114, 111, 109, 34, 58]⟩ : ByteArray)) ++ (toStr (toF (List.getD r2.1 0 em)))) ++ (⟨#[44, 34, 116, 111, 34, 58]⟩ : ByteArray)) + ByteArray.size (toStr (toF (List.getD r3.1 0 em))) ≤ 2 ^ 62)) (when (decide (ByteArray.size ((((((((⟨#[123, 34, 98, 121, 34, 58]⟩ : ByteArray) ++ (toStr (toF (List.getD r0.1 0 em)))) ++ (⟨#[44, 34, 97, 116, 34, 58]⟩ : ByteArray)) ++ (toStr (toF (List.getD r1.1 0 em)))) ++ (⟨#[44, 34, 102, 114, 111, 109, 34, 58]⟩ : ByteArray)) ++ (toStr (toF (List.getD r2.1 0 em)))) ++ (⟨#[44, 34, 116, 111, 34, 58]⟩ : ByteArray)) ++ (toStr (toF (List.getD r3.1 0 em)))) + ByteArray.size (⟨#[44, 34, 118, 97, 108, 117, 101, 34, 58]⟩ : ByteArray) ≤ 2 ^ 62)) (onR (R N_ref12_Text [.fz (.sl a), .fz (.sl b), .fz (.ag [.int .i64 i, .int .i64 j, .int .i64 l, .int .i64 m, .int .i64 o, .str p, .sl q, .sl s]), .fz (.int .i64 h)]) fun r4 => when (List.isEmpty r4.2 && allF [.fz] r4.1) (when (isStr (toF (List.getD r4.1 0 em))) (when (decide (ByteArray.size (((((((((⟨#[123, 34, 98, 121, 34, 58]⟩ : ByteArray) ++ (toStr (toF (List.getD r0.1 0 em)))) ++ (⟨#[44, 34, 97, 116, 34, 58]⟩ : ByteArray)) ++ (toStr (toF (List.getD r1.1 0 em)))) ++ (⟨#[44, 34, 102, 114, 111, 109, 34, 58]⟩ : ByteArray)) ++ (toStr (toF (List.getD r2.1 0 em)))) ++ (⟨#[44, 34, 116, 111, 34, 58]⟩ : ByteArray)) ++ (toStr (toF (List.getD r3.1 0 em)))) ++ (⟨#[44, 34, 118, 97, 108, 117, 101, 34, 58]⟩ : ByteArray)) + ByteArray.size (toStr (toF (List.getD r4.1 0 em))) ≤ 2 ^ 62)) (when (decide (ByteArray.size ((((((((((⟨#[123, 34, 98, 121, 34, 58]⟩ : ByteArray) ++ (toStr (toF (List.getD r0.1 0 em)))) ++ (⟨#[44, 34, 97, 116, 34, 58]⟩ : ByteArray)) ++ (toStr (toF (List.getD r1.1 0 em)))) ++ (⟨#[44, 34, 102, 114, 111, 109, 34, 58]⟩ : ByteArray)) ++ (toStr (toF (List.getD r2.1 0 em)))) ++ (⟨#[44, 34, 116, 111, 34, 58]⟩ : ByteArray)) ++ (toStr (toF (List.getD r3.1 0 em)))) ++ (⟨#[44, 34, 118, 97, 108, 117, 101, 34, 58]⟩ : ByteArray)) ++ (toStr (toF (List.getD r4.1 0 em)))) + ByteArray.size (⟨#[125]⟩ : ByteArray) ≤ 2 ^ 62)) (some ([.fz (.str (((((((((((⟨#[123, 34, 98, 121, 34, 58]⟩ : ByteArray) ++ (toStr (toF (List.getD r0.1 0 em)))) ++ (⟨#[44, 34, 97, 116, 34, 58]⟩ : ByteArray)) ++ (toStr (toF (List.getD r1.1 0 em)))) ++ (⟨#[44, 34, 102, 114, 111, 109, 34, 58]⟩ : ByteArray)) ++ (toStr (toF (List.getD r2.1 0 em)))) ++ (⟨#[44, 34, 116, 111, 34, 58]⟩ : ByteArray)) ++ (toStr (toF (List.getD r3.1 0 em)))) ++ (⟨#[44, 34, 118, 97, 108, 117, 101, 34, 58]⟩ : ByteArray)) ++ (toStr (toF (List.getD r4.1 0 em)))) ++ (⟨#[125]⟩ : ByteArray)))], []))))))))))))))))))))) := by kernel_rfl
def C_ledger_Text : ACode := codeOf 12 Try.f12
def A_ledger_Text_j1 : ACode := C_ledger_Text.at [1, 1, 1, 0]
def A_ledger_Text : AFunc := ⟨2, [(.tmp 4, .fz)], C_ledger_Text, none⟩
def J_ledger_Text_1_0 (R : Orc) (k : Nat) (w : Bool) (a : FV) (b c : ByteArray) (d e f g h i j l : Int) (m : ByteArray) (o p : List FV) := execL R k w [] A_ledger_Text_j1 Ans ⟨[(0, .fz (.pt 195 true a 0)), (3, .ptr 4096 0 0), (5, .fz (.str b))], [(4095, .dead), (4096, .var 12 true (.fz (.ag [.str c, .int .i64 d, .int .i64 e, .int .i64 f, .int .i64 g, .int .i64 h, .int .i64 i, .int .i64 j, .int .i64 l, .str m, .sl o, .sl p])))]⟩ (kFin R [(.tmp 4, .fz)] [])
theorem E_ledger_Text (R : Orc) (k : Nat) (w : Bool) (a : FV) (b : ByteArray) (c d e f g h i j : Int) (l : ByteArray) (m o : List FV) : callL R k w A_ledger_Text [.fz (.pt 195 true a 0), .fz (.ag [.str b, .int .i64 c, .int .i64 d, .int .i64 e, .int .i64 f, .int .i64 g, .int .i64 h, .int .i64 i, .int .i64 j, .str l, .sl m, .sl o])] = onR (R N_show_Text [.fz (.pt 195 true a 0), .fz (.ag [.int .i64 f, .int .i64 g, .int .i64 h, .int .i64 i, .int .i64 j, .str l, .sl m, .sl o]), .fz (.int .i64 e), .fz (.int .i64 65536)]) fun r0 => when (List.isEmpty r0.2 && allF [.fz, .fz] r0.1) (when (isStr (toF (List.getD r0.1 0 em))) (when (isBool (toF (List.getD r0.1 1 em))) (ifB (!(toBool (toF (List.getD r0.1 1 em))))
 (jump w (J_ledger_Text_1_0 R k w a (⟨#[110, 117, 108, 108]⟩ : ByteArray) b c d e f g h i j l m o))
 (jump w (J_ledger_Text_1_0 R k w a (toStr (toF (List.getD r0.1 0 em))) b c d e f g h i j l m o))))) := by kernel_rfl
theorem J_ledger_Text_1_0_eq (R : Orc) (k : Nat) (w : Bool) (a : FV) (b c : ByteArray) (d e f g h i j l : Int) (m : ByteArray) (o p : List FV) : J_ledger_Text_1_0 R k w a b c d e f g h i j l m o p = onR (R N_ledger_quoted [.fz (.str c)]) fun r1 => when (List.isEmpty r1.2 && allF [.fz] r1.1) (when (isStr (toF (List.getD r1.1 0 em))) (when (decide (ByteArray.size (⟨#[123, 34, 98, 121, 34, 58]⟩ : ByteArray) + ByteArray.size (toStr (toF (List.getD r1.1 0 em))) ≤ 2 ^ 62)) (when (decide (ByteArray.size ((⟨#[123, 34, 98, 121, 34, 58]⟩ : ByteArray) ++ (toStr (toF (List.getD r1.1 0 em)))) + ByteArray.size (⟨#[44, 34, 97, 116, 34, 58]⟩ : ByteArray) ≤ 2 ^ 62)) (onR (R N_ledger_number [.fz (.int .i64 d)]) fun r2 => when (List.isEmpty r2.2 && allF [.fz] r2.1) (when (isStr (toF (List.getD r2.1 0 em))) (when (decide (ByteArray.size (((⟨#[123, 34, 98, 121, 34, 58]⟩ : ByteArray) ++ (toStr (toF (List.getD r1.1 0 em)))) ++ (⟨#[44, 34, 97, 116, 34, 58]⟩ : ByteArray)) + ByteArray.size (toStr (toF (List.getD r2.1 0 em))) ≤ 2 ^ 62)) (when (decide (ByteArray.size ((((⟨#[123, 34, 98, 121, 34, 58]⟩ : ByteArray) ++ (toStr (toF (List.getD r1.1 0 em)))) ++ (⟨#[44, 34, 97, 116, 34, 58]⟩ : ByteArray)) ++ (toStr (toF (List.getD r2.1 0 em)))) + ByteArray.size (⟨#[44, 34, 102, 114, 111, 109, 34, 58]⟩ : ByteArray) ≤ 2 ^ 62)) (onR (R N_level_Lattice_Text [.fz (.pt 195 true a 0), .fz (.int .i64 e)]) fun r3 => when (List.isEmpty r3.2 && allF [.fz] r3.1) (when (isStr (toF (List.getD r3.1 0 em))) (onR (R N_ledger_quoted [.fz (.str (toStr (toF (List.getD r3.1 0 em))))]) fun r4 => when (List.isEmpty r4.2 && allF [.fz] r4.1) (when (isStr (toF (List.getD r4.1 0 em))) (when (decide (ByteArray.size (((((⟨#[123, 34, 98, 121, 34, 58]⟩ : ByteArray) ++ (toStr (toF (List.getD r1.1 0 em)))) ++ (⟨#[44, 34, 97, 116, 34, 58]⟩ : ByteArray)) ++ (toStr (toF (List.getD r2.1 0 em)))) ++ (⟨#[44, 34, 102, 114, 111, 109, 34, 58]⟩ : ByteArray)) + ByteArray.size (toStr (toF (List.getD r4.1 0 em))) ≤ 2 ^ 62)) (when (decide (ByteArray.size ((((((⟨#[123, 34, 98, 121, 34, 58]⟩ : ByteArray) ++ (toStr (toF (List.getD r1.1 0 em)))) ++ (⟨#[44, 34, 97, 116, 34, 58]⟩ : ByteArray)) ++ (toStr (toF (List.getD r2.1 0 em)))) ++ (⟨#[44, 34, 102, 114, 111, 109, 34, 58]⟩ : ByteArray)) ++ (toStr (toF (List.getD r4.1 0 em)))) + ByteArray.size (⟨#[44, 34, 116, 111, 34, 58]⟩ : ByteArray) ≤ 2 ^ 62)) (onR (R N_level_Lattice_Text [.fz (.pt 195 true a 0), .fz (.int .i64 f)]) fun r5 => when (List.isEmpty r5.2 && allF [.fz] r5.1) (when (isStr (toF (List.getD r5.1 0 em))) (onR (R N_ledger_quoted [.fz (.str (toStr (toF (List.getD r5.1 0 em))))]) fun r6 => when (List.isEmpty r6.2 && allF [.fz] r6.1) (when (isStr (toF (List.getD r6.1 0 em))) (when (decide (ByteArray.size (((((((⟨#[123, 34, 98, 121, 34, 58]⟩ : ByteArray) ++ (toStr (toF (List.getD r1.1 0 em)))) ++ (⟨#[44, 34, 97, 116, 34, 58]⟩ : ByteArray)) ++ (toStr (toF (List.getD r2.1 0 em)))) ++ (⟨#[44, 34, 102, 114, 111, 109, 34, 58]⟩ : ByteArray)) ++ (toStr (toF (List.getD r4.1 0 em)))) ++ (⟨#[44, 34, 116, 111, 34, 58]⟩ : ByteArray)) + ByteArray.size (toStr (toF (List.getD r6.1 0 em))) ≤ 2 ^ 62)) (when (decide (ByteArray.size ((((((((⟨#[123, 34, 98, 121, 34, 58]⟩ : ByteArray) ++ (toStr (toF (List.getD r1.1 0 em)))) ++ (⟨#[44, 34, 97, 116, 34, 58]⟩ : ByteArray)) ++ (toStr (toF (List.getD r2.1 0 em)))) ++ (⟨#[44, 34, 102, 114, 111, 109, 34, 58]⟩ : ByteArray)) ++ (toStr (toF (List.getD r4.1 0 em)))) ++ (⟨#[44, 34, 116, 111, 34, 58]⟩ : ByteArray)) ++ (toStr (toF (List.getD r6.1 0 em)))) + ByteArray.size (⟨#[44, 34, 118, 97, 108, 117, 101, 34, 58]⟩ : ByteArray) ≤ 2 ^ 62)) (when (decide (ByteArray.size (((((((((⟨#[123, 34, 98, 121, 34, 58]⟩ : ByteArray) ++ (toStr (toF (List.getD r1.1 0 em)))) ++ (⟨#[44, 34, 97, 116, 34, 58]⟩ : ByteArray)) ++ (toStr (toF (List.getD r2.1 0 em)))) ++ (⟨#[44, 34, 102, 114, 111, 109, 34, 58]⟩ : ByteArray)) ++ (toStr (toF (List.getD r4.1 0 em)))) ++ (⟨#[44, 34, 116, 111, 34, 58]⟩ : ByteArray)) ++ (toStr (toF (List.getD r6.1 0 em)))) ++ (⟨#[44, 34, 118, 97, 108, 117, 101, 34, 58]⟩ : ByteArray)) + ByteArray.size b ≤ 2 ^ 62)) (when (decide (ByteArray.size ((((((((((⟨#[123, 34, 98, 121, 34, 58]⟩ : ByteArray) ++ (toStr (toF (List.getD r1.1 0 em)))) ++ (⟨#[44, 34, 97, 116, 34, 58]⟩ : ByteArray)) ++ (toStr (toF (List.getD r2.1 0 em)))) ++ (⟨#[44, 34, 102, 114, 111, 109, 34, 58]⟩ : ByteArray)) ++ (toStr (toF (List.getD r4.1 0 em)))) ++ (⟨#[44, 34, 116, 111, 34, 58]⟩ : ByteArray)) ++ (toStr (toF (List.getD r6.1 0 em)))) ++ (⟨#[44, 34, 118, 97, 108, 117, 101, 34, 58]⟩ : ByteArray)) ++ b) + ByteArray.size (⟨#[125]⟩ : ByteArray) ≤ 2 ^ 62)) (some ([.fz (.str (((((((((((⟨#[123, 34, 98, 121, 34, 58]⟩ : ByteArray) ++ (toStr (toF (List.getD r1.1 0 em)))) ++ (⟨#[44, 34, 97, 116, 34, 58]⟩ : ByteArray)) ++ (toStr (toF (List.getD r2.1 0 em)))) ++ (⟨#[44, 34, 102, 114, 111, 109, 34, 58]⟩ : ByteArray)) ++ (toStr (toF (List.getD r4.1 0 em)))) ++ (⟨#[44, 34, 116, 111, 34, 58]⟩ : ByteArray)) ++ (toStr (toF (List.getD r6.1 0 em)))) ++ (⟨#[44, 34, 118, 97, 108, 117, 101, 34, 58]⟩ : ByteArray)) ++ b) ++ (⟨#[125]⟩ : ByteArray)))], []))))))))))))))))))))))) := by kernel_rfl
def C_level_Lattice_Leq : ACode := codeOf 18 Try.f18
def A_level_Lattice_Leq : AFunc := ⟨3, [(.tmp 6, .fz)], C_level_Lattice_Leq, none⟩
theorem E_level_Lattice_Leq (R : Orc) (k : Nat) (w : Bool) (a : FV) (b c : Int) : callL R k w A_level_Lattice_Leq [.fz (.pt 195 true a 0), .fz (.int .i64 b), .fz (.int .i64 c)] = onR (R N_level_Lattice_Is [.fz (.pt 195 true a 0), .fz (.int .i64 b)]) fun r0 => when (List.isEmpty r0.2 && allF [.fz] r0.1) (when (isBool (toF (List.getD r0.1 0 em))) (ifB (toBool (toF (List.getD r0.1 0 em)))
 (onR (R N_level_Lattice_Is [.fz (.pt 195 true a 0), .fz (.int .i64 c)]) fun r1 => when (List.isEmpty r1.2 && allF [.fz] r1.1) (when (isBool (toF (List.getD r1.1 0 em))) (ifB (toBool (toF (List.getD r1.1 0 em)))
 (when (decide (0 ≤ b) && decide (b < 8)) (when (decide (0 ≤ c) && decide (c < 8)) (when (isAg 195 a) (when (Nat.blt ((1 + ((Int.toNat b) * 8)) + ((Int.toNat c) * 1)) 195) (when (isBool (cell a ((1 + ((Int.toNat b) * 8)) + ((Int.toNat c) * 1)))) (some ([.fz (.bool (toBool (cell a ((1 + ((Int.toNat b) * 8)) + ((Int.toNat c) * 1)))))], [])))))))
 (some ([.fz (.bool false)], [])))))
 (some ([.fz (.bool false)], [])))) := by kernel_rfl
def C_level_Lattice_Top : ACode := codeOf 19 Try.f19
def A_level_Lattice_Top : AFunc := ⟨1, [(.tmp 2, .fz)], C_level_Lattice_Top, none⟩
theorem E_level_Lattice_Top (R : Orc) (k : Nat) (w : Bool) (a : FV) : callL R k w A_level_Lattice_Top [.fz (.pt 195 true a 0)] = when (isAg 195 a) (when (isInt .i64 (cell a 194)) (some ([.fz (.int .i64 (toInt (cell a 194)))], []))) := by kernel_rfl
def C_level_named : ACode := codeOf 20 Try.f20
def A_level_named_b1 : ACode := C_level_named.at [1, 1, 0, 0, 1, 0, 0, 1, 1, 0, 0, 1, 1, 1, 0, 0]
def A_level_named_s1 : ACode := C_level_named.at [1, 1, 0, 0, 1, 0, 0, 1, 1, 1]
def A_level_named_b2 : ACode := C_level_named.at [1, 1, 0, 0, 1, 0, 0]
def A_level_named_s2 : ACode := C_level_named.at [1, 1, 0, 1]
def A_level_named_j3 : ACode := C_level_named.at [1, 1, 0]
def A_level_named : AFunc := ⟨1, [(.tmp 2, .fz)], C_level_named, none⟩
def J_level_named_3_0 (R : Orc) (k : Nat) (w : Bool) (a : List FV) := execL R k w [] A_level_named_j3 Ans ⟨[(0, .fz (.sl a))], [(4095, .dead)]⟩ (kFin R [(.tmp 2, .fz)] [])
def K_level_named_2 (R : Orc) (k : Nat) (w : Bool) : AExit → St → Option Ans := (kBlk 0 (kSeq R k w [] A_level_named_s2 (kFin R [(.tmp 2, .fz)] [])))
def L_level_named_2_0 (R : Orc) (k : Nat) (w : Bool) (n : Nat) (a b : List FV) (c d : Int) := loopL R k w [] [0, 15, 16, 17] [2] A_level_named_b2 n ⟨[(0, .fz (.sl a)), (15, .fz (.sl b)), (16, .fz (.int .i64 c)), (17, .fz (.int .i64 d))], [(4095, .dead)]⟩
def X_level_named_2_0 (a : Bool) : St := ⟨[(2, .fz (.bool a))], [(4095, .dead)]⟩
def K_level_named_1 (R : Orc) (k : Nat) (w : Bool) (n : Nat) : AExit → St → Option (AExit × St) := (kBlk 2 (kBlk 1 (kSeq R k w [] A_level_named_s1 (kLoop R k w [] [0, 15, 16, 17] [2] A_level_named_b2 n))))
def L_level_named_1_0 (R : Orc) (k : Nat) (w : Bool) (n : Nat) (a : List FV) (b : ByteArray) (c : List FV) (d e : Int) (f : List FV) (g h : Int) := loopL R k w [] [0, 4, 15, 16, 17, 27, 28, 29] [0, 2, 15, 16, 17] A_level_named_b1 n ⟨[(0, .fz (.sl a)), (4, .fz (.str b)), (15, .fz (.sl c)), (16, .fz (.int .i64 d)), (17, .fz (.int .i64 e)), (27, .fz (.sl f)), (28, .fz (.int .i64 g)), (29, .fz (.int .i64 h))], [(4095, .dead)]⟩
def X_level_named_2_1 : St := ⟨[], [(4095, .dead)]⟩
def X_level_named_1_0 (a : List FV) (b : Bool) (c : List FV) (d e : Int) : St := ⟨[(0, .fz (.sl a)), (2, .fz (.bool b)), (15, .fz (.sl c)), (16, .fz (.int .i64 d)), (17, .fz (.int .i64 e))], [(4095, .dead)]⟩
def X_level_named_1_1 (a b : List FV) (c d : Int) : St := ⟨[(0, .fz (.sl a)), (15, .fz (.sl b)), (16, .fz (.int .i64 c)), (17, .fz (.int .i64 d))], [(4095, .dead)]⟩
theorem E_level_named (R : Orc) (k : Nat) (w : Bool) (a : List FV) : callL R k w A_level_named [.fz (.sl a)] = ifB (decide ((List.length a : Int) < 1))
 (some ([.fz (.bool false)], []))
 (ifB (decide ((List.length a : Int) > 8))
 (some ([.fz (.bool false)], []))
 (jump w (J_level_named_3_0 R k w a))) := by kernel_rfl
theorem J_level_named_3_0_eq (R : Orc) (k : Nat) (w : Bool) (a : List FV) : J_level_named_3_0 R k w a = onL (L_level_named_2_0 R k w k a a (List.length a : Int) 0) (K_level_named_2 R k w) := by kernel_rfl
theorem L_level_named_2_0_eq (R : Orc) (k : Nat) (w : Bool) (n : Nat) (a b : List FV) (c d : Int) : L_level_named_2_0 R k w (n + 1) a b c d = ifB (decide (d < c))
 (when ((decide (0 ≤ d)) && (decide (d < (List.length b : Int)))) (when (fits 1 false (List.getD b (Int.toNat d) nilp)) (when (isStr (List.getD b (Int.toNat d) nilp)) (onR (R N_level_Name [.fz (.str (toStr (List.getD b (Int.toNat d) nilp)))]) fun r0 => when (List.isEmpty r0.2 && allF [.fz] r0.1) (when (isBool (toF (List.getD r0.1 0 em))) (ifB (!(toBool (toF (List.getD r0.1 0 em))))
 (some (.ret, X_level_named_2_0 false))
 (when (List.all a (fits 1 false)) (when (decide (0 ≤ d) && decide (d ≤ (List.length a : Int))) (when (decide (0 ≤ 0) && decide (0 ≤ d)) (onL (L_level_named_1_0 R k w k a (toStr (List.getD b (Int.toNat d) nilp)) b c d (List.drop 0 (List.take (Int.toNat d) a)) (List.length (List.drop 0 (List.take (Int.toNat d) a)) : Int) 0) (K_level_named_1 R k w n)))))))))))
 (some ((.exit 0), X_level_named_2_1)) := by kernel_rfl
theorem X_level_named_2_0_eq (R : Orc) (k : Nat) (w a : Bool) : K_level_named_2 R k w .ret (X_level_named_2_0 a) = some ([.fz (.bool a)], []) := by kernel_rfl
theorem L_level_named_1_0_eq (R : Orc) (k : Nat) (w : Bool) (n : Nat) (a : List FV) (b : ByteArray) (c : List FV) (d e : Int) (f : List FV) (g h : Int) : L_level_named_1_0 R k w (n + 1) a b c d e f g h = ifB (decide (h < g))
 (when ((decide (0 ≤ h)) && (decide (h < (List.length f : Int)))) (when (fits 1 false (List.getD f (Int.toNat h) nilp)) (when (isStr (List.getD f (Int.toNat h) nilp)) (ifB (ByteArray.toList b == ByteArray.toList (toStr (List.getD f (Int.toNat h) nilp)))
 (some (.ret, X_level_named_1_0 a false c d e))
 (L_level_named_1_0 R k w n a b c d e f g (IntKind.wrap .i64 (h + 1)))))))
 (some ((.exit 2), X_level_named_1_1 a c d e)) := by kernel_rfl
theorem X_level_named_2_1_eq (R : Orc) (k : Nat) (w : Bool) : K_level_named_2 R k w (.exit 0) (X_level_named_2_1) = some ([.fz (.bool true)], []) := by kernel_rfl
theorem X_level_named_1_0_eq (R : Orc) (k : Nat) (w : Bool) (n : Nat) (a : List FV) (b : Bool) (c : List FV) (d e : Int) : K_level_named_1 R k w n .ret (X_level_named_1_0 a b c d e) = some (.ret, X_level_named_2_0 b) := by kernel_rfl
theorem X_level_named_1_1_eq (R : Orc) (k : Nat) (w : Bool) (n : Nat) (a b : List FV) (c d : Int) : K_level_named_1 R k w n (.exit 2) (X_level_named_1_1 a b c d) = L_level_named_2_0 R k w n a b c (IntKind.wrap .i64 (d + 1)) := by kernel_rfl
def C_level_laid : ACode := codeOf 21 Try.f21
def A_level_laid_b1 : ACode := C_level_laid.at [1, 1, 1, 0, 1, 0, 0]
def A_level_laid_j1 : ACode := C_level_laid.at [1, 1, 1, 1, 0, 1, 0, 0, 1, 1, 0, 0, 1, 1, 0]
def A_level_laid_s2 : ACode := C_level_laid.at [1, 1, 1, 1, 0, 1, 0, 0, 1, 1, 1]
def A_level_laid_b2 : ACode := C_level_laid.at [1, 1, 1, 1, 0, 1, 0, 0]
def A_level_laid_s3 : ACode := C_level_laid.at [1, 1, 1, 1, 1]
def A_level_laid_s4 : ACode := C_level_laid.at [1, 1, 1, 1]
def A_level_laid : AFunc := ⟨2, [(.cell 4 64 true, .fz), (.tmp 5, .fz)], C_level_laid, none⟩
def K_level_laid_1 (R : Orc) (k : Nat) (w : Bool) : AExit → St → Option Ans := (kBlk 0 (kSeq R k w [] A_level_laid_s4 (kFin R [(.cell 4 64 true, .fz), (.tmp 5, .fz)] [])))
def L_level_laid_1_0 (R : Orc) (k : Nat) (w : Bool) (n : Nat) (a : Int) (b : List FV) (c d : Int) (e f : FV) := loopL R k w [] [0, 1, 4, 6, 14, 15] [0, 1, 4, 6] A_level_laid_b1 n ⟨[(0, .fz (.int .i64 a)), (1, .fz (.sl b)), (4, .ptr 4096 0 0), (6, .ptr 4097 0 0), (14, .fz (.int .i64 c)), (15, .fz (.int .i64 d))], [(4095, .dead), (4096, .var 64 true (.fz e)), (4097, .var 64 true (.fz f))]⟩
def X_level_laid_1_0 (a : Int) (b : List FV) (c d : FV) : St := ⟨[(0, .fz (.int .i64 a)), (1, .fz (.sl b)), (4, .ptr 4096 0 0), (6, .ptr 4097 0 0)], [(4095, .dead), (4096, .var 64 true (.fz c)), (4097, .var 64 true (.fz d))]⟩
def K_level_laid_2 (R : Orc) (k : Nat) (w : Bool) : AExit → St → Option Ans := (kBlk 2 (kSeq R k w [] A_level_laid_s3 (kFin R [(.cell 4 64 true, .fz), (.tmp 5, .fz)] [])))
def L_level_laid_2_0 (R : Orc) (k : Nat) (w : Bool) (n : Nat) (a : Int) (b : List FV) (c d : Int) (e f : FV) := loopL R k w [] [0, 4, 6, 23, 24, 25] [4, 5, 6] A_level_laid_b2 n ⟨[(0, .fz (.int .i64 a)), (4, .ptr 4096 0 0), (6, .ptr 4097 0 0), (23, .fz (.sl b)), (24, .fz (.int .i64 c)), (25, .fz (.int .i64 d))], [(4095, .dead), (4096, .var 64 true (.fz e)), (4097, .var 64 true (.fz f))]⟩
def X_level_laid_2_0 (a : Bool) (b c : FV) : St := ⟨[(4, .ptr 4096 0 0), (5, .fz (.bool a)), (6, .ptr 4097 0 0)], [(4095, .dead), (4096, .var 64 true (.fz b)), (4097, .var 64 true (.fz c))]⟩
def J_level_laid_1_0 (R : Orc) (k : Nat) (w : Bool) (n : Nat) (a : Int) (b : List FV) (c d : Int) (e f g : FV) := execL R k w [] A_level_laid_j1 (AExit × St) ⟨[(0, .fz (.int .i64 a)), (4, .ptr 4096 0 0), (6, .ptr 4097 0 0), (9, .ptr 4098 0 0), (23, .fz (.sl b)), (24, .fz (.int .i64 c)), (25, .fz (.int .i64 d))], [(4095, .dead), (4096, .var 64 true (.fz e)), (4097, .var 64 true (.fz f)), (4098, .var 2 true (.fz g))]⟩ (kBlk 3 (kSeq R k w [] A_level_laid_s2 (kLoop R k w [] [0, 4, 6, 23, 24, 25] [4, 5, 6] A_level_laid_b2 n)))
def X_level_laid_2_1 (a b : FV) : St := ⟨[(4, .ptr 4096 0 0), (6, .ptr 4097 0 0)], [(4095, .dead), (4096, .var 64 true (.fz a)), (4097, .var 64 true (.fz b))]⟩
theorem E_level_laid (R : Orc) (k : Nat) (w : Bool) (a : Int) (b : List FV) : callL R k w A_level_laid [.fz (.int .i64 a), .fz (.sl b)] = ifB (decide ((List.length b : Int) > 64))
 (some ([.fz (.ag [.bool false, .bool false, .bool false, .bool false, .bool false, .bool false, .bool false, .bool false, .bool false, .bool false, .bool false, .bool false, .bool false, .bool false, .bool false, .bool false, .bool false, .bool false, .bool false, .bool false, .bool false, .bool false, .bool false, .bool false, .bool false, .bool false, .bool false, .bool false, .bool false, .bool false, .bool false, .bool false, .bool false, .bool false, .bool false, .bool false, .bool false, .bool false, .bool false, .bool false, .bool false, .bool false, .bool false, .bool false, .bool false, .bool false, .bool false, .bool false, .bool false, .bool false, .bool false, .bool false, .bool false, .bool false, .bool false, .bool false, .bool false, .bool false, .bool false, .bool false, .bool false, .bool false, .bool false, .bool false]), .fz (.bool false)], []))
 (onL (L_level_laid_1_0 R k w k a b a 0 (.ag [.bool false, .bool false, .bool false, .bool false, .bool false, .bool false, .bool false, .bool false, .bool false, .bool false, .bool false, .bool false, .bool false, .bool false, .bool false, .bool false, .bool false, .bool false, .bool false, .bool false, .bool false, .bool false, .bool false, .bool false, .bool false, .bool false, .bool false, .bool false, .bool false, .bool false, .bool false, .bool false, .bool false, .bool false, .bool false, .bool false, .bool false, .bool false, .bool false, .bool false, .bool false, .bool false, .bool false, .bool false, .bool false, .bool false, .bool false, .bool false, .bool false, .bool false, .bool false, .bool false, .bool false, .bool false, .bool false, .bool false, .bool false, .bool false, .bool false, .bool false, .bool false, .bool false, .bool false, .bool false]) (.ag [.bool false, .bool false, .bool false, .bool false, .bool false, .bool false, .bool false, .bool false, .bool false, .bool false, .bool false, .bool false, .bool false, .bool false, .bool false, .bool false, .bool false, .bool false, .bool false, .bool false, .bool false, .bool false, .bool false, .bool false, .bool false, .bool false, .bool false, .bool false, .bool false, .bool false, .bool false, .bool false, .bool false, .bool false, .bool false, .bool false, .bool false, .bool false, .bool false, .bool false, .bool false, .bool false, .bool false, .bool false, .bool false, .bool false, .bool false, .bool false, .bool false, .bool false, .bool false, .bool false, .bool false, .bool false, .bool false, .bool false, .bool false, .bool false, .bool false, .bool false, .bool false, .bool false, .bool false, .bool false])) (K_level_laid_1 R k w)) := by kernel_rfl
theorem L_level_laid_1_0_eq (R : Orc) (k : Nat) (w : Bool) (n : Nat) (a : Int) (b : List FV) (c d : Int) (e f : FV) : L_level_laid_1_0 R k w (n + 1) a b c d e f = ifB (decide (d < c))
 (when (decide (0 ≤ d) && decide (d < 8)) (when (decide (0 ≤ d) && decide (d < 8)) (when ((isAg 64 f) && true) (when (Nat.blt ((0 + ((Int.toNat d) * 8)) + ((Int.toNat d) * 1)) 64) (L_level_laid_1_0 R k w n a b c (IntKind.wrap .i64 (d + 1)) e (.ag (List.set (toAg f) ((0 + ((Int.toNat d) * 8)) + ((Int.toNat d) * 1)) (.bool true))))))))
 (some ((.exit 0), X_level_laid_1_0 a b e f)) := by kernel_rfl
theorem X_level_laid_1_0_eq (R : Orc) (k : Nat) (w : Bool) (a : Int) (b : List FV) (c d : FV) : K_level_laid_1 R k w (.exit 0) (X_level_laid_1_0 a b c d) = onL (L_level_laid_2_0 R k w k a b (List.length b : Int) 0 c d) (K_level_laid_2 R k w) := by kernel_rfl
theorem L_level_laid_2_0_eq (R : Orc) (k : Nat) (w : Bool) (n : Nat) (a : Int) (b : List FV) (c d : Int) (e f : FV) : L_level_laid_2_0 R k w (n + 1) a b c d e f = ifB (decide (d < c))
 (when ((decide (0 ≤ d)) && (decide (d < (List.length b : Int)))) (when (fits 2 true (List.getD b (Int.toNat d) nilp)) (when (fits 2 true (List.getD b (Int.toNat d) nilp)) (when (isAg 2 (List.getD b (Int.toNat d) nilp)) (when (isInt .i64 (cell (List.getD b (Int.toNat d) nilp) 0)) (ifB (decide ((toInt (cell (List.getD b (Int.toNat d) nilp) 0)) < 0))
 (when (fits 64 true f) (some (.ret, X_level_laid_2_0 false f f)))
 (when (isAg 2 (List.getD b (Int.toNat d) nilp)) (when (isInt .i64 (cell (List.getD b (Int.toNat d) nilp) 0)) (ifB (decide ((toInt (cell (List.getD b (Int.toNat d) nilp) 0)) ≥ a))
 (when (fits 64 true f) (some (.ret, X_level_laid_2_0 false f f)))
 (when (isAg 2 (List.getD b (Int.toNat d) nilp)) (when (isInt .i64 (cell (List.getD b (Int.toNat d) nilp) 1)) (ifB (decide ((toInt (cell (List.getD b (Int.toNat d) nilp) 1)) < 0))
 (when (fits 64 true f) (some (.ret, X_level_laid_2_0 false f f)))
 (when (isAg 2 (List.getD b (Int.toNat d) nilp)) (when (isInt .i64 (cell (List.getD b (Int.toNat d) nilp) 1)) (ifB (decide ((toInt (cell (List.getD b (Int.toNat d) nilp) 1)) ≥ a))
 (when (fits 64 true f) (some (.ret, X_level_laid_2_0 false f f)))
 (jump w (J_level_laid_1_0 R k w n a b c d e f (List.getD b (Int.toNat d) nilp))))))))))))))))))
 (some ((.exit 2), X_level_laid_2_1 e f)) := by kernel_rfl
theorem X_level_laid_2_0_eq (R : Orc) (k : Nat) (w a : Bool) (b c : FV) : K_level_laid_2 R k w .ret (X_level_laid_2_0 a b c) = some ([.fz b, .fz (.bool a)], []) := by kernel_rfl
theorem J_level_laid_1_0_eq (R : Orc) (k : Nat) (w : Bool) (n : Nat) (a : Int) (b : List FV) (c d : Int) (e f g : FV) : J_level_laid_1_0 R k w n a b c d e f g = when (isAg 2 g) (when (isInt .i64 (cell g 0)) (when (isAg 2 g) (when (isInt .i64 (cell g 1)) (when (decide (0 ≤ (toInt (cell g 0))) && decide ((toInt (cell g 0)) < 8)) (when (decide (0 ≤ (toInt (cell g 1))) && decide ((toInt (cell g 1)) < 8)) (when ((isAg 64 f) && true) (when (Nat.blt ((0 + ((Int.toNat (toInt (cell g 0))) * 8)) + ((Int.toNat (toInt (cell g 1))) * 1)) 64) (L_level_laid_2_0 R k w n a b c (IntKind.wrap .i64 (d + 1)) e (.ag (List.set (toAg f) ((0 + ((Int.toNat (toInt (cell g 0))) * 8)) + ((Int.toNat (toInt (cell g 1))) * 1)) (.bool true))))))))))) := by kernel_rfl
theorem X_level_laid_2_1_eq (R : Orc) (k : Nat) (w : Bool) (a b : FV) : K_level_laid_2 R k w (.exit 2) (X_level_laid_2_1 a b) = when (fits 64 true b) (some ([.fz b, .fz (.bool true)], [])) := by kernel_rfl
def C_level_closed : ACode := codeOf 22 Try.f22
def A_level_closed_b1 : ACode := C_level_closed.at [1, 0, 0, 0, 1, 0, 1, 0, 0, 1, 1, 0, 0, 1, 1, 0, 0, 1, 1, 0, 0, 1, 1, 0, 0]
def A_level_closed_s1 : ACode := C_level_closed.at [1, 0, 0, 0, 1, 0, 1, 0, 0, 1, 1, 0, 0, 1, 1, 0, 0, 1, 1, 1]
def A_level_closed_b2 : ACode := C_level_closed.at [1, 0, 0, 0, 1, 0, 1, 0, 0, 1, 1, 0, 0, 1, 1, 0, 0]
def A_level_closed_s2 : ACode := C_level_closed.at [1, 0, 0, 0, 1, 0, 1, 0, 0, 1, 1, 1]
def A_level_closed_b3 : ACode := C_level_closed.at [1, 0, 0, 0, 1, 0, 1, 0, 0]
def A_level_closed_s3 : ACode := C_level_closed.at [1, 0, 0, 0, 1, 1]
def A_level_closed_b4 : ACode := C_level_closed.at [1, 0, 0]
def A_level_closed : AFunc := ⟨2, [(.cell 4 64 true, .fz)], C_level_closed, none⟩
def K_level_closed_4 (R : Orc) (k : Nat) (w : Bool) : AExit → St → Option Ans := (kBlk 0 (kFin R [(.cell 4 64 true, .fz)] []))
def L_level_closed_4_0 (R : Orc) (k : Nat) (w : Bool) (n : Nat) (a : Int) (b c : FV) := loopL R k w [] [1, 2, 4] [4] A_level_closed_b4 n ⟨[(1, .fz (.int .i64 a)), (2, .ptr 4096 0 0), (4, .ptr 4097 0 0)], [(4095, .dead), (4096, .var 64 true (.fz b)), (4097, .var 64 true (.fz c))]⟩
def K_level_closed_3 (R : Orc) (k : Nat) (w : Bool) (n : Nat) : AExit → St → Option (AExit × St) := (kBlk 2 (kSeq R k w [] A_level_closed_s3 (kBlk 1 (kLoop R k w [] [1, 2, 4] [4] A_level_closed_b4 n))))
def L_level_closed_3_0 (R : Orc) (k : Nat) (w : Bool) (n : Nat) (a b c : Int) (d e f : FV) := loopL R k w [] [1, 2, 4, 5, 10, 11] [1, 2, 4, 5] A_level_closed_b3 n ⟨[(1, .fz (.int .i64 a)), (2, .ptr 4096 0 0), (4, .ptr 4097 0 0), (5, .ptr 4098 0 0), (10, .fz (.int .i64 b)), (11, .fz (.int .i64 c))], [(4095, .dead), (4096, .var 64 true (.fz d)), (4097, .var 64 true (.fz e)), (4098, .var 64 true (.fz f))]⟩
def K_level_closed_2 (R : Orc) (k : Nat) (w : Bool) (n : Nat) : AExit → St → Option (AExit × St) := (kBlk 4 (kBlk 3 (kSeq R k w [] A_level_closed_s2 (kLoop R k w [] [1, 2, 4, 5, 10, 11] [1, 2, 4, 5] A_level_closed_b3 n))))
def L_level_closed_2_0 (R : Orc) (k : Nat) (w : Bool) (n : Nat) (a b c d e f : Int) (g h i : FV) := loopL R k w [] [1, 2, 4, 5, 6, 10, 11, 14, 15] [1, 2, 4, 5, 10, 11] A_level_closed_b2 n ⟨[(1, .fz (.int .i64 a)), (2, .ptr 4096 0 0), (4, .ptr 4097 0 0), (5, .ptr 4098 0 0), (6, .fz (.int .i64 b)), (10, .fz (.int .i64 c)), (11, .fz (.int .i64 d)), (14, .fz (.int .i64 e)), (15, .fz (.int .i64 f))], [(4095, .dead), (4096, .var 64 true (.fz g)), (4097, .var 64 true (.fz h)), (4098, .var 64 true (.fz i))]⟩
def X_level_closed_3_0 (a : Int) (b c d : FV) : St := ⟨[(1, .fz (.int .i64 a)), (2, .ptr 4096 0 0), (4, .ptr 4097 0 0), (5, .ptr 4098 0 0)], [(4095, .dead), (4096, .var 64 true (.fz b)), (4097, .var 64 true (.fz c)), (4098, .var 64 true (.fz d))]⟩
def K_level_closed_1 (R : Orc) (k : Nat) (w : Bool) (n : Nat) : AExit → St → Option (AExit × St) := (kBlk 6 (kBlk 5 (kSeq R k w [] A_level_closed_s1 (kLoop R k w [] [1, 2, 4, 5, 6, 10, 11, 14, 15] [1, 2, 4, 5, 10, 11] A_level_closed_b2 n))))
def L_level_closed_1_0 (R : Orc) (k : Nat) (w : Bool) (n : Nat) (a b c d e f g h i : Int) (j l m : FV) := loopL R k w [] [1, 2, 4, 5, 6, 7, 10, 11, 14, 15, 18, 19] [1, 2, 4, 5, 6, 10, 11, 14, 15] A_level_closed_b1 n ⟨[(1, .fz (.int .i64 a)), (2, .ptr 4096 0 0), (4, .ptr 4097 0 0), (5, .ptr 4098 0 0), (6, .fz (.int .i64 b)), (7, .fz (.int .i64 c)), (10, .fz (.int .i64 d)), (11, .fz (.int .i64 e)), (14, .fz (.int .i64 f)), (15, .fz (.int .i64 g)), (18, .fz (.int .i64 h)), (19, .fz (.int .i64 i))], [(4095, .dead), (4096, .var 64 true (.fz j)), (4097, .var 64 true (.fz l)), (4098, .var 64 true (.fz m))]⟩
def X_level_closed_2_0 (a b c : Int) (d e f : FV) : St := ⟨[(1, .fz (.int .i64 a)), (2, .ptr 4096 0 0), (4, .ptr 4097 0 0), (5, .ptr 4098 0 0), (10, .fz (.int .i64 b)), (11, .fz (.int .i64 c))], [(4095, .dead), (4096, .var 64 true (.fz d)), (4097, .var 64 true (.fz e)), (4098, .var 64 true (.fz f))]⟩
def X_level_closed_4_0 (a : FV) : St := ⟨[(4, .ptr 4096 0 0)], [(4095, .dead), (4096, .var 64 true (.fz a))]⟩
def X_level_closed_1_0 (a b c d e f : Int) (g h i : FV) : St := ⟨[(1, .fz (.int .i64 a)), (2, .ptr 4096 0 0), (4, .ptr 4097 0 0), (5, .ptr 4098 0 0), (6, .fz (.int .i64 b)), (10, .fz (.int .i64 c)), (11, .fz (.int .i64 d)), (14, .fz (.int .i64 e)), (15, .fz (.int .i64 f))], [(4095, .dead), (4096, .var 64 true (.fz g)), (4097, .var 64 true (.fz h)), (4098, .var 64 true (.fz i))]⟩
theorem E_level_closed (R : Orc) (k : Nat) (w : Bool) (a : FV) (b : Int) : callL R k w A_level_closed [.fz a, .fz (.int .i64 b)] = when (fits 64 true a) (onL (L_level_closed_4_0 R k w k b a (.ag [.bool false, .bool false, .bool false, .bool false, .bool false, .bool false, .bool false, .bool false, .bool false, .bool false, .bool false, .bool false, .bool false, .bool false, .bool false, .bool false, .bool false, .bool false, .bool false, .bool false, .bool false, .bool false, .bool false, .bool false, .bool false, .bool false, .bool false, .bool false, .bool false, .bool false, .bool false, .bool false, .bool false, .bool false, .bool false, .bool false, .bool false, .bool false, .bool false, .bool false, .bool false, .bool false, .bool false, .bool false, .bool false, .bool false, .bool false, .bool false, .bool false, .bool false, .bool false, .bool false, .bool false, .bool false, .bool false, .bool false, .bool false, .bool false, .bool false, .bool false, .bool false, .bool false, .bool false, .bool false])) (K_level_closed_4 R k w)) := by kernel_rfl
theorem L_level_closed_4_0_eq (R : Orc) (k : Nat) (w : Bool) (n : Nat) (a : Int) (b c : FV) : L_level_closed_4_0 R k w (n + 1) a b c = when (fits 64 true b) (onL (L_level_closed_3_0 R k w k a a 0 b c b) (K_level_closed_3 R k w n)) := by kernel_rfl
theorem L_level_closed_3_0_eq (R : Orc) (k : Nat) (w : Bool) (n : Nat) (a b c : Int) (d e f : FV) : L_level_closed_3_0 R k w (n + 1) a b c d e f = ifB (decide (c < b))
 (onL (L_level_closed_2_0 R k w k a c b c a 0 d e f) (K_level_closed_2 R k w n))
 (some ((.exit 2), X_level_closed_3_0 a d e f)) := by kernel_rfl
theorem L_level_closed_2_0_eq (R : Orc) (k : Nat) (w : Bool) (n : Nat) (a b c d e f : Int) (g h i : FV) : L_level_closed_2_0 R k w (n + 1) a b c d e f g h i = ifB (decide (f < e))
 (onL (L_level_closed_1_0 R k w k a b f c d e f a 0 g h i) (K_level_closed_1 R k w n))
 (some ((.exit 4), X_level_closed_2_0 a c d g h i)) := by kernel_rfl
theorem X_level_closed_3_0_eq (R : Orc) (k : Nat) (w : Bool) (n : Nat) (a : Int) (b c d : FV) : K_level_closed_3 R k w n (.exit 2) (X_level_closed_3_0 a b c d) = when ((isAg 64 b) && (isAg 64 d)) (when ((eksOk (List.replicate 64 (.bool)) (toAg b)) && (eksOk (List.replicate 64 (.bool)) (toAg d))) (ifB (eksEq (List.replicate 64 (.bool)) (toAg b) (toAg d))
 (when (fits 64 true b) (some (.ret, X_level_closed_4_0 b)))
 (L_level_closed_4_0 R k w n a b c))) := by kernel_rfl
theorem L_level_closed_1_0_eq (R : Orc) (k : Nat) (w : Bool) (n : Nat) (a b c d e f g h i : Int) (j l m : FV) : L_level_closed_1_0 R k w (n + 1) a b c d e f g h i j l m = ifB (decide (i < h))
 (when (decide (0 ≤ b) && decide (b < 8)) (when (decide (0 ≤ i) && decide (i < 8)) (when (isAg 64 j) (when (Nat.blt ((0 + ((Int.toNat b) * 8)) + ((Int.toNat i) * 1)) 64) (when (isBool (cell j ((0 + ((Int.toNat b) * 8)) + ((Int.toNat i) * 1)))) (ifB (toBool (cell j ((0 + ((Int.toNat b) * 8)) + ((Int.toNat i) * 1))))
 (when (decide (0 ≤ b) && decide (b < 8)) (when (decide (0 ≤ i) && decide (i < 8)) (when ((isAg 64 j) && true) (when (Nat.blt ((0 + ((Int.toNat b) * 8)) + ((Int.toNat i) * 1)) 64) (L_level_closed_1_0 R k w n a b c d e f g h (IntKind.wrap .i64 (i + 1)) (.ag (List.set (toAg j) ((0 + ((Int.toNat b) * 8)) + ((Int.toNat i) * 1)) (.bool true))) l m)))))
 (when (decide (0 ≤ b) && decide (b < 8)) (when (decide (0 ≤ c) && decide (c < 8)) (when (isAg 64 j) (when (Nat.blt ((0 + ((Int.toNat b) * 8)) + ((Int.toNat c) * 1)) 64) (when (isBool (cell j ((0 + ((Int.toNat b) * 8)) + ((Int.toNat c) * 1)))) (ifB (toBool (cell j ((0 + ((Int.toNat b) * 8)) + ((Int.toNat c) * 1))))
 (when (decide (0 ≤ c) && decide (c < 8)) (when (decide (0 ≤ i) && decide (i < 8)) (when (isAg 64 j) (when (Nat.blt ((0 + ((Int.toNat c) * 8)) + ((Int.toNat i) * 1)) 64) (when (isBool (cell j ((0 + ((Int.toNat c) * 8)) + ((Int.toNat i) * 1)))) (when (decide (0 ≤ b) && decide (b < 8)) (when (decide (0 ≤ i) && decide (i < 8)) (when ((isAg 64 j) && true) (when (Nat.blt ((0 + ((Int.toNat b) * 8)) + ((Int.toNat i) * 1)) 64) (L_level_closed_1_0 R k w n a b c d e f g h (IntKind.wrap .i64 (i + 1)) (.ag (List.set (toAg j) ((0 + ((Int.toNat b) * 8)) + ((Int.toNat i) * 1)) (.bool (toBool (cell j ((0 + ((Int.toNat c) * 8)) + ((Int.toNat i) * 1))))))) l m))))))))))
 (when (decide (0 ≤ b) && decide (b < 8)) (when (decide (0 ≤ i) && decide (i < 8)) (when ((isAg 64 j) && true) (when (Nat.blt ((0 + ((Int.toNat b) * 8)) + ((Int.toNat i) * 1)) 64) (L_level_closed_1_0 R k w n a b c d e f g h (IntKind.wrap .i64 (i + 1)) (.ag (List.set (toAg j) ((0 + ((Int.toNat b) * 8)) + ((Int.toNat i) * 1)) (.bool false))) l m)))))))))))))))))
 (some ((.exit 6), X_level_closed_1_0 a b d e f g j l m)) := by kernel_rfl
theorem X_level_closed_2_0_eq (R : Orc) (k : Nat) (w : Bool) (n : Nat) (a b c : Int) (d e f : FV) : K_level_closed_2 R k w n (.exit 4) (X_level_closed_2_0 a b c d e f) = L_level_closed_3_0 R k w n a b (IntKind.wrap .i64 (c + 1)) d e f := by kernel_rfl
theorem X_level_closed_4_0_eq (R : Orc) (k : Nat) (w : Bool) (a : FV) : K_level_closed_4 R k w .ret (X_level_closed_4_0 a) = some ([.fz a], []) := by kernel_rfl
theorem X_level_closed_1_0_eq (R : Orc) (k : Nat) (w : Bool) (n : Nat) (a b c d e f : Int) (g h i : FV) : K_level_closed_1 R k w n (.exit 6) (X_level_closed_1_0 a b c d e f g h i) = L_level_closed_2_0 R k w n a b c d e (IntKind.wrap .i64 (f + 1)) g h i := by kernel_rfl
def C_level_twisted : ACode := codeOf 23 Try.f23
def A_level_twisted_b1 : ACode := C_level_twisted.at [1, 0, 1, 0, 0, 1, 1, 0, 0, 1, 1, 0, 0]
def A_level_twisted_s1 : ACode := C_level_twisted.at [1, 0, 1, 0, 0, 1, 1, 1]
def A_level_twisted_b2 : ACode := C_level_twisted.at [1, 0, 1, 0, 0]
def A_level_twisted_s2 : ACode := C_level_twisted.at [1, 1]
def A_level_twisted : AFunc := ⟨2, [(.tmp 4, .fz)], C_level_twisted, none⟩
def K_level_twisted_2 (R : Orc) (k : Nat) (w : Bool) : AExit → St → Option Ans := (kBlk 0 (kSeq R k w [] A_level_twisted_s2 (kFin R [(.tmp 4, .fz)] [])))
def L_level_twisted_2_0 (R : Orc) (k : Nat) (w : Bool) (n : Nat) (a b : Int) (c : FV) := loopL R k w [] [2, 7, 8] [4] A_level_twisted_b2 n ⟨[(2, .ptr 4096 0 0), (7, .fz (.int .i64 a)), (8, .fz (.int .i64 b))], [(4095, .dead), (4096, .var 64 true (.fz c))]⟩
def K_level_twisted_1 (R : Orc) (k : Nat) (w : Bool) (n : Nat) : AExit → St → Option (AExit × St) := (kBlk 2 (kBlk 1 (kSeq R k w [] A_level_twisted_s1 (kLoop R k w [] [2, 7, 8] [4] A_level_twisted_b2 n))))
def L_level_twisted_1_0 (R : Orc) (k : Nat) (w : Bool) (n : Nat) (a b c d e : Int) (f : FV) := loopL R k w [] [2, 5, 7, 8, 11, 12] [2, 4, 7, 8] A_level_twisted_b1 n ⟨[(2, .ptr 4096 0 0), (5, .fz (.int .i64 a)), (7, .fz (.int .i64 b)), (8, .fz (.int .i64 c)), (11, .fz (.int .i64 d)), (12, .fz (.int .i64 e))], [(4095, .dead), (4096, .var 64 true (.fz f))]⟩
def X_level_twisted_2_0 : St := ⟨[], [(4095, .dead)]⟩
def X_level_twisted_1_0 (a : Bool) (b c : Int) (d : FV) : St := ⟨[(2, .ptr 4096 0 0), (4, .fz (.bool a)), (7, .fz (.int .i64 b)), (8, .fz (.int .i64 c))], [(4095, .dead), (4096, .var 64 true (.fz d))]⟩
def X_level_twisted_1_1 (a b : Int) (c : FV) : St := ⟨[(2, .ptr 4096 0 0), (7, .fz (.int .i64 a)), (8, .fz (.int .i64 b))], [(4095, .dead), (4096, .var 64 true (.fz c))]⟩
def X_level_twisted_2_1 (a : Bool) : St := ⟨[(4, .fz (.bool a))], [(4095, .dead)]⟩
theorem E_level_twisted (R : Orc) (k : Nat) (w : Bool) (a : FV) (b : Int) : callL R k w A_level_twisted [.fz a, .fz (.int .i64 b)] = when (fits 64 true a) (onL (L_level_twisted_2_0 R k w k b 0 a) (K_level_twisted_2 R k w)) := by kernel_rfl
theorem L_level_twisted_2_0_eq (R : Orc) (k : Nat) (w : Bool) (n : Nat) (a b : Int) (c : FV) : L_level_twisted_2_0 R k w (n + 1) a b c = ifB (decide (b < a))
 (onL (L_level_twisted_1_0 R k w k b a b b 0 c) (K_level_twisted_1 R k w n))
 (some ((.exit 0), X_level_twisted_2_0)) := by kernel_rfl
theorem L_level_twisted_1_0_eq (R : Orc) (k : Nat) (w : Bool) (n : Nat) (a b c d e : Int) (f : FV) : L_level_twisted_1_0 R k w (n + 1) a b c d e f = ifB (decide (e < d))
 (when (decide (0 ≤ a) && decide (a < 8)) (when (decide (0 ≤ e) && decide (e < 8)) (when (isAg 64 f) (when (Nat.blt ((0 + ((Int.toNat a) * 8)) + ((Int.toNat e) * 1)) 64) (when (isBool (cell f ((0 + ((Int.toNat a) * 8)) + ((Int.toNat e) * 1)))) (ifB (toBool (cell f ((0 + ((Int.toNat a) * 8)) + ((Int.toNat e) * 1))))
 (when (decide (0 ≤ e) && decide (e < 8)) (when (decide (0 ≤ a) && decide (a < 8)) (when (isAg 64 f) (when (Nat.blt ((0 + ((Int.toNat e) * 8)) + ((Int.toNat a) * 1)) 64) (when (isBool (cell f ((0 + ((Int.toNat e) * 8)) + ((Int.toNat a) * 1)))) (ifB (toBool (cell f ((0 + ((Int.toNat e) * 8)) + ((Int.toNat a) * 1))))
 (some (.ret, X_level_twisted_1_0 true b c f))
 (L_level_twisted_1_0 R k w n a b c d (IntKind.wrap .i64 (e + 1)) f)))))))
 (L_level_twisted_1_0 R k w n a b c d (IntKind.wrap .i64 (e + 1)) f)))))))
 (some ((.exit 2), X_level_twisted_1_1 b c f)) := by kernel_rfl
theorem X_level_twisted_2_0_eq (R : Orc) (k : Nat) (w : Bool) : K_level_twisted_2 R k w (.exit 0) (X_level_twisted_2_0) = some ([.fz (.bool false)], []) := by kernel_rfl
theorem X_level_twisted_1_0_eq (R : Orc) (k : Nat) (w : Bool) (n : Nat) (a : Bool) (b c : Int) (d : FV) : K_level_twisted_1 R k w n .ret (X_level_twisted_1_0 a b c d) = some (.ret, X_level_twisted_2_1 a) := by kernel_rfl
theorem X_level_twisted_1_1_eq (R : Orc) (k : Nat) (w : Bool) (n : Nat) (a b : Int) (c : FV) : K_level_twisted_1 R k w n (.exit 2) (X_level_twisted_1_1 a b c) = L_level_twisted_2_0 R k w n a (IntKind.wrap .i64 (b + 1)) c := by kernel_rfl
theorem X_level_twisted_2_1_eq (R : Orc) (k : Nat) (w a : Bool) : K_level_twisted_2 R k w .ret (X_level_twisted_2_1 a) = some ([.fz (.bool a)], []) := by kernel_rfl
def C_level_Lattice_fill : ACode := codeOf 24 Try.f24
def A_level_Lattice_fill_b1 : ACode := C_level_Lattice_fill.at [1, 1, 0, 1, 0, 0, 1, 1, 0, 0, 1, 1, 0, 0]
def A_level_Lattice_fill_s1 : ACode := C_level_Lattice_fill.at [1, 1, 0, 1, 0, 0, 1, 1, 1]
def A_level_Lattice_fill_b2 : ACode := C_level_Lattice_fill.at [1, 1, 0, 1, 0, 0]
def A_level_Lattice_fill_b3 : ACode := C_level_Lattice_fill.at [1, 1, 1, 0, 1, 0, 0]
def A_level_Lattice_fill_s2 : ACode := C_level_Lattice_fill.at [1, 1, 1, 1]
def A_level_Lattice_fill_s3 : ACode := C_level_Lattice_fill.at [1, 1, 1]
def A_level_Lattice_fill : AFunc := ⟨2, [(.tmp 4, .fz)], C_level_Lattice_fill, none⟩
def K_level_Lattice_fill_2 (R : Orc) (k : Nat) (w : Bool) : AExit → St → Option Ans := (kBlk 0 (kSeq R k w [0] A_level_Lattice_fill_s3 (kFin R [(.tmp 4, .fz)] [0])))
def L_level_Lattice_fill_2_0 (R : Orc) (k : Nat) (w : Bool) (n : Nat) (a b c : Int) (d e : FV) := loopL R k w [0] [0, 1, 5, 14, 15] [0, 1, 4] A_level_Lattice_fill_b2 n ⟨[(0, .ptr 0 0 0), (1, .fz (.int .i64 a)), (5, .ptr 4096 0 0), (14, .fz (.int .i64 b)), (15, .fz (.int .i64 c))], [(0, .var 195 true (.fz d)), (4095, .dead), (4096, .var 64 true (.fz e))]⟩
def K_level_Lattice_fill_1 (R : Orc) (k : Nat) (w : Bool) (n : Nat) : AExit → St → Option (AExit × St) := (kBlk 2 (kBlk 1 (kSeq R k w [0] A_level_Lattice_fill_s1 (kLoop R k w [0] [0, 1, 5, 14, 15] [0, 1, 4] A_level_Lattice_fill_b2 n))))
def L_level_Lattice_fill_1_0 (R : Orc) (k : Nat) (w : Bool) (n : Nat) (a b c d e f : Int) (g h : FV) := loopL R k w [0] [0, 1, 5, 6, 14, 15, 18, 19] [0, 1, 4, 5, 14, 15] A_level_Lattice_fill_b1 n ⟨[(0, .ptr 0 0 0), (1, .fz (.int .i64 a)), (5, .ptr 4096 0 0), (6, .fz (.int .i64 b)), (14, .fz (.int .i64 c)), (15, .fz (.int .i64 d)), (18, .fz (.int .i64 e)), (19, .fz (.int .i64 f))], [(0, .var 195 true (.fz g)), (4095, .dead), (4096, .var 64 true (.fz h))]⟩
def X_level_Lattice_fill_2_0 (a : Int) (b : FV) : St := ⟨[(0, .ptr 0 0 0), (1, .fz (.int .i64 a))], [(0, .var 195 true (.fz b)), (4095, .dead)]⟩
def X_level_Lattice_fill_1_0 (a : Int) (b : Bool) (c d : Int) (e f : FV) : St := ⟨[(0, .ptr 0 0 0), (1, .fz (.int .i64 a)), (4, .fz (.bool b)), (5, .ptr 4096 0 0), (14, .fz (.int .i64 c)), (15, .fz (.int .i64 d))], [(0, .var 195 true (.fz e)), (4095, .dead), (4096, .var 64 true (.fz f))]⟩
def X_level_Lattice_fill_1_1 (a b c : Int) (d e : FV) : St := ⟨[(0, .ptr 0 0 0), (1, .fz (.int .i64 a)), (5, .ptr 4096 0 0), (14, .fz (.int .i64 b)), (15, .fz (.int .i64 c))], [(0, .var 195 true (.fz d)), (4095, .dead), (4096, .var 64 true (.fz e))]⟩
def K_level_Lattice_fill_3 (R : Orc) (k : Nat) (w : Bool) : AExit → St → Option Ans := (kBlk 4 (kSeq R k w [0] A_level_Lattice_fill_s2 (kFin R [(.tmp 4, .fz)] [0])))
def L_level_Lattice_fill_3_0 (R : Orc) (k : Nat) (w : Bool) (n : Nat) (a b : Int) (c : FV) := loopL R k w [0] [0, 71, 72] [] A_level_Lattice_fill_b3 n ⟨[(0, .ptr 0 0 0), (71, .fz (.int .i64 a)), (72, .fz (.int .i64 b))], [(0, .var 195 true (.fz c)), (4095, .dead)]⟩
def X_level_Lattice_fill_2_1 (a : Int) (b : Bool) (c : FV) : St := ⟨[(0, .ptr 0 0 0), (1, .fz (.int .i64 a)), (4, .fz (.bool b))], [(0, .var 195 true (.fz c)), (4095, .dead)]⟩
def X_level_Lattice_fill_3_0 (a : FV) : St := ⟨[], [(0, .var 195 true (.fz a)), (4095, .dead)]⟩
theorem E_level_Lattice_fill (R : Orc) (k : Nat) (w : Bool) (a : FV) (b : Int) : callL R k w A_level_Lattice_fill [.pv 195 true (.fz a), .fz (.int .i64 b)] = when (isAg 195 a) (onR (R N_level_turned [.fz (.ag (List.map (fun j => cell a (1 + j)) (List.range 64)))]) fun r0 => when (List.isEmpty r0.2 && allF [.fz] r0.1) (when (fits 64 true (toF (List.getD r0.1 0 em))) (onL (L_level_Lattice_fill_2_0 R k w k b b 0 a (toF (List.getD r0.1 0 em))) (K_level_Lattice_fill_2 R k w)))) := by kernel_rfl
theorem L_level_Lattice_fill_2_0_eq (R : Orc) (k : Nat) (w : Bool) (n : Nat) (a b c : Int) (d e : FV) : L_level_Lattice_fill_2_0 R k w (n + 1) a b c d e = ifB (decide (c < b))
 (onL (L_level_Lattice_fill_1_0 R k w k a c b c a 0 d e) (K_level_Lattice_fill_1 R k w n))
 (some ((.exit 0), X_level_Lattice_fill_2_0 a d)) := by kernel_rfl
theorem L_level_Lattice_fill_1_0_eq (R : Orc) (k : Nat) (w : Bool) (n : Nat) (a b c d e f : Int) (g h : FV) : L_level_Lattice_fill_1_0 R k w (n + 1) a b c d e f g h = ifB (decide (f < e))
 (when (isAg 195 g) (onR (R N_level_over [.fz (.ag (List.map (fun j => cell g (1 + j)) (List.range 64))), .fz (.int .i64 a), .fz (.int .i64 b), .fz (.int .i64 f)]) fun r1 => when (List.isEmpty r1.2 && allF [.fz] r1.1) (when (isInt .i64 (toF (List.getD r1.1 0 em))) (when (decide (0 ≤ b) && decide (b < 8)) (when (decide (0 ≤ f) && decide (f < 8)) (when ((isAg 195 g) && true) (when (Nat.blt ((65 + ((Int.toNat b) * 8)) + ((Int.toNat f) * 1)) 195) (onR (R N_level_over [.fz h, .fz (.int .i64 a), .fz (.int .i64 b), .fz (.int .i64 f)]) fun r2 => when (List.isEmpty r2.2 && allF [.fz] r2.1) (when (isInt .i64 (toF (List.getD r2.1 0 em))) (when (decide (0 ≤ b) && decide (b < 8)) (when (decide (0 ≤ f) && decide (f < 8)) (when ((isAg 195 (.ag (List.set (toAg g) ((65 + ((Int.toNat b) * 8)) + ((Int.toNat f) * 1)) (.int .i64 (toInt (toF (List.getD r1.1 0 em))))))) && true) (when (Nat.blt ((129 + ((Int.toNat b) * 8)) + ((Int.toNat f) * 1)) 195) (when (decide (0 ≤ b) && decide (b < 8)) (when (decide (0 ≤ f) && decide (f < 8)) (when (isAg 195 (.ag (List.set (toAg (.ag (List.set (toAg g) ((65 + ((Int.toNat b) * 8)) + ((Int.toNat f) * 1)) (.int .i64 (toInt (toF (List.getD r1.1 0 em))))))) ((129 + ((Int.toNat b) * 8)) + ((Int.toNat f) * 1)) (.int .i64 (toInt (toF (List.getD r2.1 0 em))))))) (when (Nat.blt ((65 + ((Int.toNat b) * 8)) + ((Int.toNat f) * 1)) 195) (when (isInt .i64 (cell (.ag (List.set (toAg (.ag (List.set (toAg g) ((65 + ((Int.toNat b) * 8)) + ((Int.toNat f) * 1)) (.int .i64 (toInt (toF (List.getD r1.1 0 em))))))) ((129 + ((Int.toNat b) * 8)) + ((Int.toNat f) * 1)) (.int .i64 (toInt (toF (List.getD r2.1 0 em)))))) ((65 + ((Int.toNat b) * 8)) + ((Int.toNat f) * 1)))) (ifB (decide ((toInt (cell (.ag (List.set (toAg (.ag (List.set (toAg g) ((65 + ((Int.toNat b) * 8)) + ((Int.toNat f) * 1)) (.int .i64 (toInt (toF (List.getD r1.1 0 em))))))) ((129 + ((Int.toNat b) * 8)) + ((Int.toNat f) * 1)) (.int .i64 (toInt (toF (List.getD r2.1 0 em)))))) ((65 + ((Int.toNat b) * 8)) + ((Int.toNat f) * 1)))) < 0))
 (some (.ret, X_level_Lattice_fill_1_0 a false c d (.ag (List.set (toAg (.ag (List.set (toAg g) ((65 + ((Int.toNat b) * 8)) + ((Int.toNat f) * 1)) (.int .i64 (toInt (toF (List.getD r1.1 0 em))))))) ((129 + ((Int.toNat b) * 8)) + ((Int.toNat f) * 1)) (.int .i64 (toInt (toF (List.getD r2.1 0 em)))))) h))
 (when (decide (0 ≤ b) && decide (b < 8)) (when (decide (0 ≤ f) && decide (f < 8)) (when (isAg 195 (.ag (List.set (toAg (.ag (List.set (toAg g) ((65 + ((Int.toNat b) * 8)) + ((Int.toNat f) * 1)) (.int .i64 (toInt (toF (List.getD r1.1 0 em))))))) ((129 + ((Int.toNat b) * 8)) + ((Int.toNat f) * 1)) (.int .i64 (toInt (toF (List.getD r2.1 0 em))))))) (when (Nat.blt ((129 + ((Int.toNat b) * 8)) + ((Int.toNat f) * 1)) 195) (when (isInt .i64 (cell (.ag (List.set (toAg (.ag (List.set (toAg g) ((65 + ((Int.toNat b) * 8)) + ((Int.toNat f) * 1)) (.int .i64 (toInt (toF (List.getD r1.1 0 em))))))) ((129 + ((Int.toNat b) * 8)) + ((Int.toNat f) * 1)) (.int .i64 (toInt (toF (List.getD r2.1 0 em)))))) ((129 + ((Int.toNat b) * 8)) + ((Int.toNat f) * 1)))) (ifB (decide ((toInt (cell (.ag (List.set (toAg (.ag (List.set (toAg g) ((65 + ((Int.toNat b) * 8)) + ((Int.toNat f) * 1)) (.int .i64 (toInt (toF (List.getD r1.1 0 em))))))) ((129 + ((Int.toNat b) * 8)) + ((Int.toNat f) * 1)) (.int .i64 (toInt (toF (List.getD r2.1 0 em)))))) ((129 + ((Int.toNat b) * 8)) + ((Int.toNat f) * 1)))) < 0))
 (some (.ret, X_level_Lattice_fill_1_0 a false c d (.ag (List.set (toAg (.ag (List.set (toAg g) ((65 + ((Int.toNat b) * 8)) + ((Int.toNat f) * 1)) (.int .i64 (toInt (toF (List.getD r1.1 0 em))))))) ((129 + ((Int.toNat b) * 8)) + ((Int.toNat f) * 1)) (.int .i64 (toInt (toF (List.getD r2.1 0 em)))))) h))
 (L_level_Lattice_fill_1_0 R k w n a b c d e (IntKind.wrap .i64 (f + 1)) (.ag (List.set (toAg (.ag (List.set (toAg g) ((65 + ((Int.toNat b) * 8)) + ((Int.toNat f) * 1)) (.int .i64 (toInt (toF (List.getD r1.1 0 em))))))) ((129 + ((Int.toNat b) * 8)) + ((Int.toNat f) * 1)) (.int .i64 (toInt (toF (List.getD r2.1 0 em)))))) h))))))))))))))))))))))))))
 (some ((.exit 2), X_level_Lattice_fill_1_1 a c d g h)) := by kernel_rfl
theorem X_level_Lattice_fill_2_0_eq (R : Orc) (k : Nat) (w : Bool) (a : Int) (b : FV) : K_level_Lattice_fill_2 R k w (.exit 0) (X_level_Lattice_fill_2_0 a b) = onL (L_level_Lattice_fill_3_0 R k w k a 0 b) (K_level_Lattice_fill_3 R k w) := by kernel_rfl
theorem X_level_Lattice_fill_1_0_eq (R : Orc) (k : Nat) (w : Bool) (n : Nat) (a : Int) (b : Bool) (c d : Int) (e f : FV) : K_level_Lattice_fill_1 R k w n .ret (X_level_Lattice_fill_1_0 a b c d e f) = some (.ret, X_level_Lattice_fill_2_1 a b e) := by kernel_rfl
theorem X_level_Lattice_fill_1_1_eq (R : Orc) (k : Nat) (w : Bool) (n : Nat) (a b c : Int) (d e : FV) : K_level_Lattice_fill_1 R k w n (.exit 2) (X_level_Lattice_fill_1_1 a b c d e) = L_level_Lattice_fill_2_0 R k w n a b (IntKind.wrap .i64 (c + 1)) d e := by kernel_rfl
theorem L_level_Lattice_fill_3_0_eq (R : Orc) (k : Nat) (w : Bool) (n : Nat) (a b : Int) (c : FV) : L_level_Lattice_fill_3_0 R k w (n + 1) a b c = ifB (decide (b < a))
 (when (isAg 195 c) (when (isInt .i64 (cell c 193)) (when (decide (0 ≤ (toInt (cell c 193))) && decide ((toInt (cell c 193)) < 8)) (when (decide (0 ≤ b) && decide (b < 8)) (when (isAg 195 c) (when (Nat.blt ((129 + ((Int.toNat (toInt (cell c 193))) * 8)) + ((Int.toNat b) * 1)) 195) (when (isInt .i64 (cell c ((129 + ((Int.toNat (toInt (cell c 193))) * 8)) + ((Int.toNat b) * 1)))) (when ((isAg 195 c) && true) (when (isAg 195 (.ag (List.set (toAg c) 193 (.int .i64 (toInt (cell c ((129 + ((Int.toNat (toInt (cell c 193))) * 8)) + ((Int.toNat b) * 1)))))))) (when (isInt .i64 (cell (.ag (List.set (toAg c) 193 (.int .i64 (toInt (cell c ((129 + ((Int.toNat (toInt (cell c 193))) * 8)) + ((Int.toNat b) * 1))))))) 194)) (when (decide (0 ≤ (toInt (cell (.ag (List.set (toAg c) 193 (.int .i64 (toInt (cell c ((129 + ((Int.toNat (toInt (cell c 193))) * 8)) + ((Int.toNat b) * 1))))))) 194))) && decide ((toInt (cell (.ag (List.set (toAg c) 193 (.int .i64 (toInt (cell c ((129 + ((Int.toNat (toInt (cell c 193))) * 8)) + ((Int.toNat b) * 1))))))) 194)) < 8)) (when (decide (0 ≤ b) && decide (b < 8)) (when (isAg 195 (.ag (List.set (toAg c) 193 (.int .i64 (toInt (cell c ((129 + ((Int.toNat (toInt (cell c 193))) * 8)) + ((Int.toNat b) * 1)))))))) (when (Nat.blt ((65 + ((Int.toNat (toInt (cell (.ag (List.set (toAg c) 193 (.int .i64 (toInt (cell c ((129 + ((Int.toNat (toInt (cell c 193))) * 8)) + ((Int.toNat b) * 1))))))) 194))) * 8)) + ((Int.toNat b) * 1)) 195) (when (isInt .i64 (cell (.ag (List.set (toAg c) 193 (.int .i64 (toInt (cell c ((129 + ((Int.toNat (toInt (cell c 193))) * 8)) + ((Int.toNat b) * 1))))))) ((65 + ((Int.toNat (toInt (cell (.ag (List.set (toAg c) 193 (.int .i64 (toInt (cell c ((129 + ((Int.toNat (toInt (cell c 193))) * 8)) + ((Int.toNat b) * 1))))))) 194))) * 8)) + ((Int.toNat b) * 1)))) (when ((isAg 195 (.ag (List.set (toAg c) 193 (.int .i64 (toInt (cell c ((129 + ((Int.toNat (toInt (cell c 193))) * 8)) + ((Int.toNat b) * 1)))))))) && true) (L_level_Lattice_fill_3_0 R k w n a (IntKind.wrap .i64 (b + 1)) (.ag (List.set (toAg (.ag (List.set (toAg c) 193 (.int .i64 (toInt (cell c ((129 + ((Int.toNat (toInt (cell c 193))) * 8)) + ((Int.toNat b) * 1)))))))) 194 (.int .i64 (toInt (cell (.ag (List.set (toAg c) 193 (.int .i64 (toInt (cell c ((129 + ((Int.toNat (toInt (cell c 193))) * 8)) + ((Int.toNat b) * 1))))))) ((65 + ((Int.toNat (toInt (cell (.ag (List.set (toAg c) 193 (.int .i64 (toInt (cell c ((129 + ((Int.toNat (toInt (cell c 193))) * 8)) + ((Int.toNat b) * 1))))))) 194))) * 8)) + ((Int.toNat b) * 1))))))))))))))))))))))))
 (some ((.exit 4), X_level_Lattice_fill_3_0 c)) := by kernel_rfl
theorem X_level_Lattice_fill_2_1_eq (R : Orc) (k : Nat) (w : Bool) (a : Int) (b : Bool) (c : FV) : K_level_Lattice_fill_2 R k w .ret (X_level_Lattice_fill_2_1 a b c) = some ([.fz (.bool b)], [.fz c]) := by kernel_rfl
theorem X_level_Lattice_fill_3_0_eq (R : Orc) (k : Nat) (w : Bool) (a : FV) : K_level_Lattice_fill_3 R k w (.exit 4) (X_level_Lattice_fill_3_0 a) = some ([.fz (.bool true)], [.fz a]) := by kernel_rfl
def C_ref09_Light : ACode := codeOf 25 Try.f25
def A_ref09_Light : AFunc := ⟨2, [(.tmp 4, .fz)], C_ref09_Light, none⟩
theorem E_ref09_Light (R : Orc) (k : Nat) (w : Bool) (a b c d e : Int) (f : ByteArray) (g h : List FV) (i : Int) : callL R k w A_ref09_Light [.fz (.ag [.int .i64 a, .int .i64 b, .int .i64 c, .int .i64 d, .int .i64 e, .str f, .sl g, .sl h]), .fz (.int .i64 i)] = onR (R N_ref09_Size [.fz (.ag [.int .i64 a, .int .i64 b, .int .i64 c, .int .i64 d, .int .i64 e, .str f, .sl g, .sl h]), .fz (.int .i64 0), .fz (.int .i64 (IntKind.wrap .i64 (i + 1)))]) fun r0 => when (List.isEmpty r0.2 && allF [.fz] r0.1) (when (isInt .i64 (toF (List.getD r0.1 0 em))) (ifB (decide ((toInt (toF (List.getD r0.1 0 em))) ≤ i))
 (onR (R N_ref09_Flat [.fz (.ag [.int .i64 a, .int .i64 b, .int .i64 c, .int .i64 d, .int .i64 e, .str f, .sl g, .sl h]), .fz (.int .i64 60)]) fun r1 => when (List.isEmpty r1.2 && allF [.fz] r1.1) (when (isBool (toF (List.getD r1.1 0 em))) (some ([.fz (.bool (toBool (toF (List.getD r1.1 0 em))))], []))))
 (some ([.fz (.bool false)], [])))) := by kernel_rfl
def C_ref09_Is : ACode := codeOf 26 Try.f26
def A_ref09_Is : AFunc := ⟨2, [(.tmp 4, .fz)], C_ref09_Is, none⟩
theorem E_ref09_Is (R : Orc) (k : Nat) (w : Bool) (a : List FV) (b c d e f : Int) (g : ByteArray) (h i : List FV) : callL R k w A_ref09_Is [.fz (.sl a), .fz (.ag [.int .i64 b, .int .i64 c, .int .i64 d, .int .i64 e, .int .i64 f, .str g, .sl h, .sl i])] = onR (R N_ref09_Labels [.fz (.sl a), .fz (.ag [.int .i64 b, .int .i64 c, .int .i64 d, .int .i64 e, .int .i64 f, .str g, .sl h, .sl i])]) fun r0 => when (List.isEmpty r0.2 && allF [.fz] r0.1) (when (isBool (toF (List.getD r0.1 0 em))) (ifB (toBool (toF (List.getD r0.1 0 em)))
 (onR (R N_ref09_right [.fz (.sl a), .fz (.ag [.int .i64 b, .int .i64 c, .int .i64 d, .int .i64 e, .int .i64 f, .str g, .sl h, .sl i])]) fun r1 => when (List.isEmpty r1.2 && allF [.fz] r1.1) (when (isBool (toF (List.getD r1.1 0 em))) (ifB (toBool (toF (List.getD r1.1 0 em)))
 (onR (R N_ref09_Strip [.fz (.ag [.int .i64 b, .int .i64 c, .int .i64 d, .int .i64 e, .int .i64 f, .str g, .sl h, .sl i])]) fun r2 => when (List.isEmpty r2.2 && allF [.fz] r2.1) (onR (R N_ref09_shape [.fz (toF (List.getD r2.1 0 em))]) fun r3 => when (List.isEmpty r3.2 && allF [.fz] r3.1) (when (isBool (toF (List.getD r3.1 0 em))) (some ([.fz (.bool (toBool (toF (List.getD r3.1 0 em))))], [])))))
 (some ([.fz (.bool false)], [])))))
 (some ([.fz (.bool false)], [])))) := by kernel_rfl
def C_ref03_Signs : ACode := codeOf 27 Try.f27
def A_ref03_Signs_j1 : ACode := C_ref03_Signs.at [1, 1, 0, 1, 0, 0, 1, 0, 1, 1, 0, 1, 0]
def A_ref03_Signs_j2 : ACode := C_ref03_Signs.at [1, 1, 0, 1, 0, 0, 1, 0, 1, 1, 1, 0, 1, 0, 0, 1, 0, 0, 1, 0, 0, 1, 1, 0]
def A_ref03_Signs_s3 : ACode := C_ref03_Signs.at [1, 1, 0, 1, 0, 0, 1, 0, 1, 1, 1, 0, 1, 0, 0, 1, 0, 0, 1, 1]
def A_ref03_Signs_b1 : ACode := C_ref03_Signs.at [1, 1, 0, 1, 0, 0, 1, 0, 1, 1, 1, 0, 1, 0, 0, 1, 0, 0]
def A_ref03_Signs_j4 : ACode := C_ref03_Signs.at [1, 1, 0, 1, 0, 0, 1, 0, 1, 1, 1, 0, 1, 0, 1, 1, 0]
def A_ref03_Signs_s5 : ACode := C_ref03_Signs.at [1, 1, 0, 1, 0, 0, 1, 0, 1, 1, 1, 0, 1, 0, 1]
def A_ref03_Signs_j6 : ACode := C_ref03_Signs.at [1, 1, 0, 1, 0, 0, 1, 0, 1, 1, 1, 0, 1, 0]
def A_ref03_Signs_j7 : ACode := C_ref03_Signs.at [1, 1, 0, 1, 0, 0, 1, 0, 1, 1, 1, 0]
def A_ref03_Signs_s8 : ACode := C_ref03_Signs.at [1, 1, 0, 1, 0, 0, 1, 0, 1, 1, 1]
def A_ref03_Signs_b2 : ACode := C_ref03_Signs.at [1, 1, 0, 1, 0, 0]
def A_ref03_Signs_s9 : ACode := C_ref03_Signs.at [1, 1, 1]
def A_ref03_Signs : AFunc := ⟨1, [(.tmp 2, .fz), (.tmp 3, .fz)], C_ref03_Signs, none⟩
def K_ref03_Signs_2 (R : Orc) (k : Nat) (w : Bool) : AExit → St → Option Ans := (kBlk 0 (kSeq R k w [] A_ref03_Signs_s9 (kFin R [(.tmp 2, .fz), (.tmp 3, .fz)] [])))
def L_ref03_Signs_2_0 (R : Orc) (k : Nat) (w : Bool) (n : Nat) (a : ByteArray) (b : Int) := loopL R k w [] [0, 4, 5] [2, 3, 4] A_ref03_Signs_b2 n ⟨[(0, .fz (.str a)), (4, .nils), (5, .fz (.int .i64 b))], [(4095, .dead)]⟩
def J_ref03_Signs_1_0 (R : Orc) (k : Nat) (w : Bool) (n : Nat) (a : ByteArray) (b c d e : Int) (f : Bool) := execL R k w [] A_ref03_Signs_j1 (AExit × St) ⟨[(0, .fz (.str a)), (4, .nils), (5, .fz (.int .i64 b)), (6, .fz (.int .i64 c)), (7, .fz (.int .i64 d)), (8, .fz (.int .i64 e)), (25, .fz (.bool f))], [(4095, .dead)]⟩ (kSeq R k w [] A_ref03_Signs_s8 (kBlk 1 (kLoop R k w [] [0, 4, 5] [2, 3, 4] A_ref03_Signs_b2 n)))
def X_ref03_Signs_2_0 : St := ⟨[(4, .nils)], [(4095, .dead)]⟩
def J_ref03_Signs_7_0 (R : Orc) (k : Nat) (w : Bool) (n : Nat) (a : ByteArray) (b c d e : Int) := execL R k w [] A_ref03_Signs_j7 (AExit × St) ⟨[(0, .fz (.str a)), (4, .nils), (5, .fz (.int .i64 b)), (6, .fz (.int .i64 c)), (7, .fz (.int .i64 d)), (8, .fz (.int .i64 e))], [(4095, .dead)]⟩ (kBlk 1 (kLoop R k w [] [0, 4, 5] [2, 3, 4] A_ref03_Signs_b2 n))
def X_ref03_Signs_2_1 (a : Bool) : St := ⟨[(2, .nils), (3, .fz (.bool a)), (4, .nils)], [(4095, .dead)]⟩
def J_ref03_Signs_6_0 (R : Orc) (k : Nat) (w : Bool) (n : Nat) (a : ByteArray) (b c d : Int) := execL R k w [] A_ref03_Signs_j6 (AExit × St) ⟨[(0, .fz (.str a)), (4, .nils), (5, .fz (.int .i64 b)), (7, .fz (.int .i64 c)), (8, .fz (.int .i64 d))], [(4095, .dead)]⟩ (kBlk 1 (kLoop R k w [] [0, 4, 5] [2, 3, 4] A_ref03_Signs_b2 n))
def K_ref03_Signs_1 (R : Orc) (k : Nat) (w : Bool) (n : Nat) : AExit → St → Option (AExit × St) := (kBlk 2 (kSeq R k w [] A_ref03_Signs_s5 (kBlk 1 (kLoop R k w [] [0, 4, 5] [2, 3, 4] A_ref03_Signs_b2 n))))
def L_ref03_Signs_1_0 (R : Orc) (k : Nat) (w : Bool) (n : Nat) (a : ByteArray) (b c d e : Int) := loopL R k w [] [0, 4, 5, 7, 8, 9] [0, 2, 3, 4, 5, 7, 8] A_ref03_Signs_b1 n ⟨[(0, .fz (.str a)), (4, .nils), (5, .fz (.int .i64 b)), (7, .fz (.int .i64 c)), (8, .fz (.int .i64 d)), (9, .fz (.int .i64 e))], [(4095, .dead)]⟩
def X_ref03_Signs_1_0 (a : ByteArray) (b : Bool) (c d e : Int) : St := ⟨[(0, .fz (.str a)), (2, .nils), (3, .fz (.bool b)), (4, .nils), (5, .fz (.int .i64 c)), (7, .fz (.int .i64 d)), (8, .fz (.int .i64 e))], [(4095, .dead)]⟩
def J_ref03_Signs_2_0 (R : Orc) (k : Nat) (w : Bool) (n : Nat) (a : ByteArray) (b c d e f : Int) := execL R k w [] A_ref03_Signs_j2 (AExit × St) ⟨[(0, .fz (.str a)), (4, .nils), (5, .fz (.int .i64 b)), (7, .fz (.int .i64 c)), (8, .fz (.int .i64 d)), (9, .fz (.int .i64 e)), (10, .fz (.int .i64 f))], [(4095, .dead)]⟩ (kBlk 3 (kSeq R k w [] A_ref03_Signs_s3 (kLoop R k w [] [0, 4, 5, 7, 8, 9] [0, 2, 3, 4, 5, 7, 8] A_ref03_Signs_b1 n)))
def X_ref03_Signs_1_1 (a : ByteArray) (b c d : Int) : St := ⟨[(0, .fz (.str a)), (4, .nils), (5, .fz (.int .i64 b)), (7, .fz (.int .i64 c)), (8, .fz (.int .i64 d))], [(4095, .dead)]⟩
def J_ref03_Signs_4_0 (R : Orc) (k : Nat) (w : Bool) (n : Nat) (a : ByteArray) (b c d : Int) := execL R k w [] A_ref03_Signs_j4 (AExit × St) ⟨[(0, .fz (.str a)), (4, .nils), (5, .fz (.int .i64 b)), (7, .fz (.int .i64 c)), (8, .fz (.int .i64 d))], [(4095, .dead)]⟩ (kBlk 1 (kLoop R k w [] [0, 4, 5] [2, 3, 4] A_ref03_Signs_b2 n))
def L_ref03_Signs_2_1 (R : Orc) (k : Nat) (w : Bool) (n : Nat) (a : ByteArray) (b : Int) (c : List FV) := loopL R k w [] [0, 4, 5] [2, 3, 4] A_ref03_Signs_b2 n ⟨[(0, .fz (.str a)), (4, .rw 4096), (5, .fz (.int .i64 b))], [(4095, .dead), (4096, .row 1 false c)]⟩
def J_ref03_Signs_1_1 (R : Orc) (k : Nat) (w : Bool) (n : Nat) (a : ByteArray) (b c d e : Int) (f : Bool) (g : List FV) := execL R k w [] A_ref03_Signs_j1 (AExit × St) ⟨[(0, .fz (.str a)), (4, .rw 4096), (5, .fz (.int .i64 b)), (6, .fz (.int .i64 c)), (7, .fz (.int .i64 d)), (8, .fz (.int .i64 e)), (25, .fz (.bool f))], [(4095, .dead), (4096, .row 1 false g)]⟩ (kSeq R k w [] A_ref03_Signs_s8 (kBlk 1 (kLoop R k w [] [0, 4, 5] [2, 3, 4] A_ref03_Signs_b2 n)))
def X_ref03_Signs_2_2 (a : List FV) : St := ⟨[(4, .rw 4096)], [(4095, .dead), (4096, .row 1 false a)]⟩
def J_ref03_Signs_7_1 (R : Orc) (k : Nat) (w : Bool) (n : Nat) (a : ByteArray) (b c d e : Int) (f : List FV) := execL R k w [] A_ref03_Signs_j7 (AExit × St) ⟨[(0, .fz (.str a)), (4, .rw 4096), (5, .fz (.int .i64 b)), (6, .fz (.int .i64 c)), (7, .fz (.int .i64 d)), (8, .fz (.int .i64 e))], [(4095, .dead), (4096, .row 1 false f)]⟩ (kBlk 1 (kLoop R k w [] [0, 4, 5] [2, 3, 4] A_ref03_Signs_b2 n))
def X_ref03_Signs_2_3 (a : Bool) (b : List FV) : St := ⟨[(2, .nils), (3, .fz (.bool a)), (4, .rw 4096)], [(4095, .dead), (4096, .row 1 false b)]⟩
def J_ref03_Signs_6_1 (R : Orc) (k : Nat) (w : Bool) (n : Nat) (a : ByteArray) (b c d : Int) (e : List FV) := execL R k w [] A_ref03_Signs_j6 (AExit × St) ⟨[(0, .fz (.str a)), (4, .rw 4096), (5, .fz (.int .i64 b)), (7, .fz (.int .i64 c)), (8, .fz (.int .i64 d))], [(4095, .dead), (4096, .row 1 false e)]⟩ (kBlk 1 (kLoop R k w [] [0, 4, 5] [2, 3, 4] A_ref03_Signs_b2 n))
def L_ref03_Signs_1_1 (R : Orc) (k : Nat) (w : Bool) (n : Nat) (a : ByteArray) (b c d e : Int) (f : List FV) := loopL R k w [] [0, 4, 5, 7, 8, 9] [0, 2, 3, 4, 5, 7, 8] A_ref03_Signs_b1 n ⟨[(0, .fz (.str a)), (4, .rw 4096), (5, .fz (.int .i64 b)), (7, .fz (.int .i64 c)), (8, .fz (.int .i64 d)), (9, .fz (.int .i64 e))], [(4095, .dead), (4096, .row 1 false f)]⟩
def X_ref03_Signs_1_2 (a : ByteArray) (b : Bool) (c d e : Int) (f : List FV) : St := ⟨[(0, .fz (.str a)), (2, .nils), (3, .fz (.bool b)), (4, .rw 4096), (5, .fz (.int .i64 c)), (7, .fz (.int .i64 d)), (8, .fz (.int .i64 e))], [(4095, .dead), (4096, .row 1 false f)]⟩
def J_ref03_Signs_2_1 (R : Orc) (k : Nat) (w : Bool) (n : Nat) (a : ByteArray) (b c d e f : Int) (g : List FV) := execL R k w [] A_ref03_Signs_j2 (AExit × St) ⟨[(0, .fz (.str a)), (4, .rw 4096), (5, .fz (.int .i64 b)), (7, .fz (.int .i64 c)), (8, .fz (.int .i64 d)), (9, .fz (.int .i64 e)), (10, .fz (.int .i64 f))], [(4095, .dead), (4096, .row 1 false g)]⟩ (kBlk 3 (kSeq R k w [] A_ref03_Signs_s3 (kLoop R k w [] [0, 4, 5, 7, 8, 9] [0, 2, 3, 4, 5, 7, 8] A_ref03_Signs_b1 n)))
def X_ref03_Signs_1_3 (a : ByteArray) (b c d : Int) (e : List FV) : St := ⟨[(0, .fz (.str a)), (4, .rw 4096), (5, .fz (.int .i64 b)), (7, .fz (.int .i64 c)), (8, .fz (.int .i64 d))], [(4095, .dead), (4096, .row 1 false e)]⟩
def J_ref03_Signs_4_1 (R : Orc) (k : Nat) (w : Bool) (n : Nat) (a : ByteArray) (b c d : Int) (e : List FV) := execL R k w [] A_ref03_Signs_j4 (AExit × St) ⟨[(0, .fz (.str a)), (4, .rw 4096), (5, .fz (.int .i64 b)), (7, .fz (.int .i64 c)), (8, .fz (.int .i64 d))], [(4095, .dead), (4096, .row 1 false e)]⟩ (kBlk 1 (kLoop R k w [] [0, 4, 5] [2, 3, 4] A_ref03_Signs_b2 n))
theorem E_ref03_Signs (R : Orc) (k : Nat) (w : Bool) (a : ByteArray) : callL R k w A_ref03_Signs [.fz (.str a)] = onL (L_ref03_Signs_2_0 R k w k a 0) (K_ref03_Signs_2 R k w) := by kernel_rfl
theorem L_ref03_Signs_2_0_eq (R : Orc) (k : Nat) (w : Bool) (n : Nat) (a : ByteArray) (b : Int) : L_ref03_Signs_2_0 R k w (n + 1) a b = ifB (decide (b < (ByteArray.size a : Int)))
 (when ((decide (0 ≤ b)) && (decide (b < (ByteArray.size a : Int)))) (ifB (decide ((IntKind.wrap .i64 (((Array.getD (ByteArray.data a) (Int.toNat b) 0).toNat : Nat) : Int)) ≥ 240))
 (jump w (J_ref03_Signs_1_0 R k w n a b (IntKind.wrap .i64 (((Array.getD (ByteArray.data a) (Int.toNat b) 0).toNat : Nat) : Int)) 1 (IntKind.wrap .i64 (((Array.getD (ByteArray.data a) (Int.toNat b) 0).toNat : Nat) : Int)) (decide ((IntKind.wrap .i64 (((Array.getD (ByteArray.data a) (Int.toNat b) 0).toNat : Nat) : Int)) < 248))))
 (jump w (J_ref03_Signs_1_0 R k w n a b (IntKind.wrap .i64 (((Array.getD (ByteArray.data a) (Int.toNat b) 0).toNat : Nat) : Int)) 1 (IntKind.wrap .i64 (((Array.getD (ByteArray.data a) (Int.toNat b) 0).toNat : Nat) : Int)) false))))
 (some ((.exit 0), X_ref03_Signs_2_0)) := by kernel_rfl
theorem J_ref03_Signs_1_0_eq (R : Orc) (k : Nat) (w : Bool) (n : Nat) (a : ByteArray) (b c d e : Int) (f : Bool) : J_ref03_Signs_1_0 R k w n a b c d e f = ifB f
 (jump w (J_ref03_Signs_7_0 R k w n a b c 4 (IntKind.wrap .i64 (c - 240))))
 (ifB (decide (c ≥ 224))
 (jump w (J_ref03_Signs_7_0 R k w n a b c 3 (IntKind.wrap .i64 (c - 224))))
 (ifB (decide (c ≥ 192))
 (jump w (J_ref03_Signs_7_0 R k w n a b c 2 (IntKind.wrap .i64 (c - 192))))
 (jump w (J_ref03_Signs_7_0 R k w n a b c d e)))) := by kernel_rfl
theorem X_ref03_Signs_2_0_eq (R : Orc) (k : Nat) (w : Bool) : K_ref03_Signs_2 R k w (.exit 0) (X_ref03_Signs_2_0) = some ([.fz (.sl []), .fz (.bool true)], []) := by kernel_rfl
theorem J_ref03_Signs_7_0_eq (R : Orc) (k : Nat) (w : Bool) (n : Nat) (a : ByteArray) (b c d e : Int) : J_ref03_Signs_7_0 R k w n a b c d e = ifB (decide (c ≥ 248))
 (some (.ret, X_ref03_Signs_2_1 false))
 (ifB (decide (c ≥ 128))
 (ifB (decide (c < 192))
 (some (.ret, X_ref03_Signs_2_1 false))
 (ifB (decide ((IntKind.wrap .i64 (b + d)) > (ByteArray.size a : Int)))
 (some (.ret, X_ref03_Signs_2_1 false))
 (jump w (J_ref03_Signs_6_0 R k w n a b d e))))
 (ifB (decide ((IntKind.wrap .i64 (b + d)) > (ByteArray.size a : Int)))
 (some (.ret, X_ref03_Signs_2_1 false))
 (jump w (J_ref03_Signs_6_0 R k w n a b d e)))) := by kernel_rfl
theorem X_ref03_Signs_2_1_eq (R : Orc) (k : Nat) (w a : Bool) : K_ref03_Signs_2 R k w .ret (X_ref03_Signs_2_1 a) = some ([.fz (.sl []), .fz (.bool a)], []) := by kernel_rfl
theorem J_ref03_Signs_6_0_eq (R : Orc) (k : Nat) (w : Bool) (n : Nat) (a : ByteArray) (b c d : Int) : J_ref03_Signs_6_0 R k w n a b c d = onL (L_ref03_Signs_1_0 R k w k a b c d 1) (K_ref03_Signs_1 R k w n) := by kernel_rfl
theorem L_ref03_Signs_1_0_eq (R : Orc) (k : Nat) (w : Bool) (n : Nat) (a : ByteArray) (b c d e : Int) : L_ref03_Signs_1_0 R k w (n + 1) a b c d e = ifB (decide (e < c))
 (when ((decide (0 ≤ (IntKind.wrap .i64 (b + e)))) && (decide ((IntKind.wrap .i64 (b + e)) < (ByteArray.size a : Int)))) (ifB (decide ((IntKind.wrap .i64 (((Array.getD (ByteArray.data a) (Int.toNat (IntKind.wrap .i64 (b + e))) 0).toNat : Nat) : Int)) < 128))
 (some (.ret, X_ref03_Signs_1_0 a false b c d))
 (ifB (decide ((IntKind.wrap .i64 (((Array.getD (ByteArray.data a) (Int.toNat (IntKind.wrap .i64 (b + e))) 0).toNat : Nat) : Int)) > 191))
 (some (.ret, X_ref03_Signs_1_0 a false b c d))
 (jump w (J_ref03_Signs_2_0 R k w n a b c d e (IntKind.wrap .i64 (((Array.getD (ByteArray.data a) (Int.toNat (IntKind.wrap .i64 (b + e))) 0).toNat : Nat) : Int)))))))
 (some ((.exit 2), X_ref03_Signs_1_1 a b c d)) := by kernel_rfl
theorem X_ref03_Signs_1_0_eq (R : Orc) (k : Nat) (w : Bool) (n : Nat) (a : ByteArray) (b : Bool) (c d e : Int) : K_ref03_Signs_1 R k w n .ret (X_ref03_Signs_1_0 a b c d e) = some (.ret, X_ref03_Signs_2_1 b) := by kernel_rfl
theorem J_ref03_Signs_2_0_eq (R : Orc) (k : Nat) (w : Bool) (n : Nat) (a : ByteArray) (b c d e f : Int) : J_ref03_Signs_2_0 R k w n a b c d e f = L_ref03_Signs_1_0 R k w n a b c (IntKind.wrap .i64 ((IntKind.wrap .i64 ((IntKind.wrap .i64 (64 * d)) + f)) - 128)) (IntKind.wrap .i64 (e + 1)) := by kernel_rfl
theorem X_ref03_Signs_1_1_eq (R : Orc) (k : Nat) (w : Bool) (n : Nat) (a : ByteArray) (b c d : Int) : K_ref03_Signs_1 R k w n (.exit 2) (X_ref03_Signs_1_1 a b c d) = ifB (decide (d > 1114111))
 (some (.ret, X_ref03_Signs_2_1 false))
 (ifB (decide (d ≥ 55296))
 (ifB (decide (d < 57344))
 (some (.ret, X_ref03_Signs_2_1 false))
 (onR (R N_ref03_Put [.fz (.int .i64 d)]) fun r0 => when (List.isEmpty r0.2 && allF [.fz] r0.1) (when ((isSl (toF (List.getD r0.1 0 em))) && (List.all (toSl (toF (List.getD r0.1 0 em))) (fits 1 false))) (when (List.all (toSl (toF (List.getD r0.1 0 em))) (isInt .u8)) (when (decide (0 ≤ (IntKind.wrap .i64 (b + c))) && decide ((IntKind.wrap .i64 (b + c)) ≤ (ByteArray.size a : Int))) (when (decide (0 ≤ b) && decide (b ≤ (IntKind.wrap .i64 (b + c)))) (ifB (!(ByteArray.toList (⟨(List.map (fun e => UInt8.ofNat (toInt e).toNat) (toSl (toF (List.getD r0.1 0 em)))).toArray⟩ : ByteArray) == ByteArray.toList (ByteArray.extract a (Int.toNat b) (Int.toNat (IntKind.wrap .i64 (b + c))))))
 (some (.ret, X_ref03_Signs_2_1 false))
 (jump w (J_ref03_Signs_4_0 R k w n a b c d)))))))))
 (onR (R N_ref03_Put [.fz (.int .i64 d)]) fun r1 => when (List.isEmpty r1.2 && allF [.fz] r1.1) (when ((isSl (toF (List.getD r1.1 0 em))) && (List.all (toSl (toF (List.getD r1.1 0 em))) (fits 1 false))) (when (List.all (toSl (toF (List.getD r1.1 0 em))) (isInt .u8)) (when (decide (0 ≤ (IntKind.wrap .i64 (b + c))) && decide ((IntKind.wrap .i64 (b + c)) ≤ (ByteArray.size a : Int))) (when (decide (0 ≤ b) && decide (b ≤ (IntKind.wrap .i64 (b + c)))) (ifB (!(ByteArray.toList (⟨(List.map (fun e => UInt8.ofNat (toInt e).toNat) (toSl (toF (List.getD r1.1 0 em)))).toArray⟩ : ByteArray) == ByteArray.toList (ByteArray.extract a (Int.toNat b) (Int.toNat (IntKind.wrap .i64 (b + c))))))
 (some (.ret, X_ref03_Signs_2_1 false))
 (jump w (J_ref03_Signs_4_0 R k w n a b c d))))))))) := by kernel_rfl
theorem J_ref03_Signs_4_0_eq (R : Orc) (k : Nat) (w : Bool) (n : Nat) (a : ByteArray) (b c d : Int) : J_ref03_Signs_4_0 R k w n a b c d = when (decide (((0 : Nat) + List.length [FV.int .i64 d]) * 8 ≤ roomy) && decide ((0 : Nat) + List.length [FV.int .i64 d] ≤ roomy)) (L_ref03_Signs_2_1 R k w n a (IntKind.wrap .i64 (b + c)) [.int .i64 d]) := by kernel_rfl
theorem L_ref03_Signs_2_1_eq (R : Orc) (k : Nat) (w : Bool) (n : Nat) (a : ByteArray) (b : Int) (c : List FV) : L_ref03_Signs_2_1 R k w (n + 1) a b c = ifB (decide (b < (ByteArray.size a : Int)))
 (when ((decide (0 ≤ b)) && (decide (b < (ByteArray.size a : Int)))) (ifB (decide ((IntKind.wrap .i64 (((Array.getD (ByteArray.data a) (Int.toNat b) 0).toNat : Nat) : Int)) ≥ 240))
 (jump w (J_ref03_Signs_1_1 R k w n a b (IntKind.wrap .i64 (((Array.getD (ByteArray.data a) (Int.toNat b) 0).toNat : Nat) : Int)) 1 (IntKind.wrap .i64 (((Array.getD (ByteArray.data a) (Int.toNat b) 0).toNat : Nat) : Int)) (decide ((IntKind.wrap .i64 (((Array.getD (ByteArray.data a) (Int.toNat b) 0).toNat : Nat) : Int)) < 248)) c))
 (jump w (J_ref03_Signs_1_1 R k w n a b (IntKind.wrap .i64 (((Array.getD (ByteArray.data a) (Int.toNat b) 0).toNat : Nat) : Int)) 1 (IntKind.wrap .i64 (((Array.getD (ByteArray.data a) (Int.toNat b) 0).toNat : Nat) : Int)) false c))))
 (some ((.exit 0), X_ref03_Signs_2_2 c)) := by kernel_rfl
theorem J_ref03_Signs_1_1_eq (R : Orc) (k : Nat) (w : Bool) (n : Nat) (a : ByteArray) (b c d e : Int) (f : Bool) (g : List FV) : J_ref03_Signs_1_1 R k w n a b c d e f g = ifB f
 (jump w (J_ref03_Signs_7_1 R k w n a b c 4 (IntKind.wrap .i64 (c - 240)) g))
 (ifB (decide (c ≥ 224))
 (jump w (J_ref03_Signs_7_1 R k w n a b c 3 (IntKind.wrap .i64 (c - 224)) g))
 (ifB (decide (c ≥ 192))
 (jump w (J_ref03_Signs_7_1 R k w n a b c 2 (IntKind.wrap .i64 (c - 192)) g))
 (jump w (J_ref03_Signs_7_1 R k w n a b c d e g)))) := by kernel_rfl
theorem X_ref03_Signs_2_2_eq (R : Orc) (k : Nat) (w : Bool) (a : List FV) : K_ref03_Signs_2 R k w (.exit 0) (X_ref03_Signs_2_2 a) = some ([.fz (.sl a), .fz (.bool true)], []) := by kernel_rfl
theorem J_ref03_Signs_7_1_eq (R : Orc) (k : Nat) (w : Bool) (n : Nat) (a : ByteArray) (b c d e : Int) (f : List FV) : J_ref03_Signs_7_1 R k w n a b c d e f = ifB (decide (c ≥ 248))
 (some (.ret, X_ref03_Signs_2_3 false f))
 (ifB (decide (c ≥ 128))
 (ifB (decide (c < 192))
 (some (.ret, X_ref03_Signs_2_3 false f))
 (ifB (decide ((IntKind.wrap .i64 (b + d)) > (ByteArray.size a : Int)))
 (some (.ret, X_ref03_Signs_2_3 false f))
 (jump w (J_ref03_Signs_6_1 R k w n a b d e f))))
 (ifB (decide ((IntKind.wrap .i64 (b + d)) > (ByteArray.size a : Int)))
 (some (.ret, X_ref03_Signs_2_3 false f))
 (jump w (J_ref03_Signs_6_1 R k w n a b d e f)))) := by kernel_rfl
theorem X_ref03_Signs_2_3_eq (R : Orc) (k : Nat) (w a : Bool) (b : List FV) : K_ref03_Signs_2 R k w .ret (X_ref03_Signs_2_3 a b) = some ([.fz (.sl []), .fz (.bool a)], []) := by kernel_rfl
theorem J_ref03_Signs_6_1_eq (R : Orc) (k : Nat) (w : Bool) (n : Nat) (a : ByteArray) (b c d : Int) (e : List FV) : J_ref03_Signs_6_1 R k w n a b c d e = onL (L_ref03_Signs_1_1 R k w k a b c d 1 e) (K_ref03_Signs_1 R k w n) := by kernel_rfl
theorem L_ref03_Signs_1_1_eq (R : Orc) (k : Nat) (w : Bool) (n : Nat) (a : ByteArray) (b c d e : Int) (f : List FV) : L_ref03_Signs_1_1 R k w (n + 1) a b c d e f = ifB (decide (e < c))
 (when ((decide (0 ≤ (IntKind.wrap .i64 (b + e)))) && (decide ((IntKind.wrap .i64 (b + e)) < (ByteArray.size a : Int)))) (ifB (decide ((IntKind.wrap .i64 (((Array.getD (ByteArray.data a) (Int.toNat (IntKind.wrap .i64 (b + e))) 0).toNat : Nat) : Int)) < 128))
 (some (.ret, X_ref03_Signs_1_2 a false b c d f))
 (ifB (decide ((IntKind.wrap .i64 (((Array.getD (ByteArray.data a) (Int.toNat (IntKind.wrap .i64 (b + e))) 0).toNat : Nat) : Int)) > 191))
 (some (.ret, X_ref03_Signs_1_2 a false b c d f))
 (jump w (J_ref03_Signs_2_1 R k w n a b c d e (IntKind.wrap .i64 (((Array.getD (ByteArray.data a) (Int.toNat (IntKind.wrap .i64 (b + e))) 0).toNat : Nat) : Int)) f)))))
 (some ((.exit 2), X_ref03_Signs_1_3 a b c d f)) := by kernel_rfl
theorem X_ref03_Signs_1_2_eq (R : Orc) (k : Nat) (w : Bool) (n : Nat) (a : ByteArray) (b : Bool) (c d e : Int) (f : List FV) : K_ref03_Signs_1 R k w n .ret (X_ref03_Signs_1_2 a b c d e f) = some (.ret, X_ref03_Signs_2_3 b f) := by kernel_rfl
theorem J_ref03_Signs_2_1_eq (R : Orc) (k : Nat) (w : Bool) (n : Nat) (a : ByteArray) (b c d e f : Int) (g : List FV) : J_ref03_Signs_2_1 R k w n a b c d e f g = L_ref03_Signs_1_1 R k w n a b c (IntKind.wrap .i64 ((IntKind.wrap .i64 ((IntKind.wrap .i64 (64 * d)) + f)) - 128)) (IntKind.wrap .i64 (e + 1)) g := by kernel_rfl
theorem X_ref03_Signs_1_3_eq (R : Orc) (k : Nat) (w : Bool) (n : Nat) (a : ByteArray) (b c d : Int) (f : List FV) : K_ref03_Signs_1 R k w n (.exit 2) (X_ref03_Signs_1_3 a b c d f) = ifB (decide (d > 1114111))
 (some (.ret, X_ref03_Signs_2_3 false f))
 (ifB (decide (d ≥ 55296))
 (ifB (decide (d < 57344))
 (some (.ret, X_ref03_Signs_2_3 false f))
 (onR (R N_ref03_Put [.fz (.int .i64 d)]) fun r2 => when (List.isEmpty r2.2 && allF [.fz] r2.1) (when ((isSl (toF (List.getD r2.1 0 em))) && (List.all (toSl (toF (List.getD r2.1 0 em))) (fits 1 false))) (when (List.all (toSl (toF (List.getD r2.1 0 em))) (isInt .u8)) (when (decide (0 ≤ (IntKind.wrap .i64 (b + c))) && decide ((IntKind.wrap .i64 (b + c)) ≤ (ByteArray.size a : Int))) (when (decide (0 ≤ b) && decide (b ≤ (IntKind.wrap .i64 (b + c)))) (ifB (!(ByteArray.toList (⟨(List.map (fun e => UInt8.ofNat (toInt e).toNat) (toSl (toF (List.getD r2.1 0 em)))).toArray⟩ : ByteArray) == ByteArray.toList (ByteArray.extract a (Int.toNat b) (Int.toNat (IntKind.wrap .i64 (b + c))))))
 (some (.ret, X_ref03_Signs_2_3 false f))
 (jump w (J_ref03_Signs_4_1 R k w n a b c d f)))))))))
 (onR (R N_ref03_Put [.fz (.int .i64 d)]) fun r3 => when (List.isEmpty r3.2 && allF [.fz] r3.1) (when ((isSl (toF (List.getD r3.1 0 em))) && (List.all (toSl (toF (List.getD r3.1 0 em))) (fits 1 false))) (when (List.all (toSl (toF (List.getD r3.1 0 em))) (isInt .u8)) (when (decide (0 ≤ (IntKind.wrap .i64 (b + c))) && decide ((IntKind.wrap .i64 (b + c)) ≤ (ByteArray.size a : Int))) (when (decide (0 ≤ b) && decide (b ≤ (IntKind.wrap .i64 (b + c)))) (ifB (!(ByteArray.toList (⟨(List.map (fun e => UInt8.ofNat (toInt e).toNat) (toSl (toF (List.getD r3.1 0 em)))).toArray⟩ : ByteArray) == ByteArray.toList (ByteArray.extract a (Int.toNat b) (Int.toNat (IntKind.wrap .i64 (b + c))))))
 (some (.ret, X_ref03_Signs_2_3 false f))
 (jump w (J_ref03_Signs_4_1 R k w n a b c d f))))))))) := by kernel_rfl
theorem J_ref03_Signs_4_1_eq (R : Orc) (k : Nat) (w : Bool) (n : Nat) (a : ByteArray) (b c d : Int) (e : List FV) : J_ref03_Signs_4_1 R k w n a b c d e = when (decide ((List.length e + List.length [FV.int .i64 d]) * 8 ≤ roomy) && decide (List.length e + List.length [FV.int .i64 d] ≤ roomy)) (L_ref03_Signs_2_1 R k w n a (IntKind.wrap .i64 (b + c)) (e ++ [FV.int .i64 d])) := by kernel_rfl
end
end Go.Ab
end
