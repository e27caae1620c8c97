/- The abstract machine, part 3: a small machine whose answers are those of the Go program (written for this work, not out of the kit). No condition. -/
import Derived.Laws.AppendOwn
import Derived.Lib.Bytealg
import Derived.Lib.Join
import Derived.Lib.Repeat
import Derived.Lib.OthersKept
import Derived.Lib.Index
import Derived.Lib.IndexLaws
import Derived.Shelf.Strings.BuilderK
import Derived.WalkKit
import Derived.BigCall
import Derived.Test.YtgljpoefbphhdaaDoorK2
set_option linter.unusedVariables false
set_option linter.unusedSimpArgs false
set_option linter.unusedSectionVars false
/- The abstract machine: how what is told hangs on the answers of the calls, and on the rounds that are let; what it tells without a bound. -/
namespace Go.Ab

abbrev Orc := Nat → List TV → Option Ans
def Says (R : Orc) (qs : List (Nat × List TV × Ans)) : Prop := ∀ q ∈ qs, R q.1 q.2.1 = some q.2.2

/-- What is handed on hangs on the answers of finitely many calls alone, and on enough rounds. -/
structure FacR {α : Type} (F : Orc → Nat → (γ : Type) → (α → Option γ) → Option γ) : Prop where
  out : ∀ (R : Orc) (k : Nat) (β : Type) (K : α → Option β) (r : β), F R k β K = some r → ∃ qs y, Says R qs ∧ K y = some r ∧ ∀ (R' : Orc) (k' : Nat) (γ : Type) (K' : α → Option γ), k ≤ k' → Says R' qs → F R' k' γ K' = K' y

theorem Says.left {R : Orc} {a b : List (Nat × List TV × Ans)} (h : Says R (a ++ b)) : Says R a := fun q hq => h q (List.mem_append_left _ hq)
theorem Says.right {R : Orc} {a b : List (Nat × List TV × Ans)} (h : Says R (a ++ b)) : Says R b := fun q hq => h q (List.mem_append_right _ hq)
theorem Says.append {R : Orc} {a b : List (Nat × List TV × Ans)} (h : Says R a) (h' : Says R b) : Says R (a ++ b) := fun q hq => (List.mem_append.1 hq).elim (h q) (h' q)
theorem Says.nil {R : Orc} : Says R [] := fun _ hq => by cases hq

section
variable {α δ : Type} {F F' : Orc → Nat → (γ : Type) → (α → Option γ) → Option γ}

theorem FacR.pure (y : α) (e : ∀ R k γ K, F R k γ K = K y) : FacR F := ⟨fun R k β K r h => ⟨[], y, Says.nil, (e R k β K).symm.trans h, fun R' k' γ K' _ _ => e R' k' γ K'⟩⟩
theorem FacR.fail (e : ∀ R k γ K, F R k γ K = none) : FacR F := ⟨fun R k β K r h => by rw [e] at h; cases h⟩
theorem FacR.ofFac {F0 : (γ : Type) → (α → Option γ) → Option γ} (f : Fac F0) (e : ∀ R k γ K, F R k γ K = F0 γ K) : FacR F := ⟨fun R k β K r h => by
  rw [e] at h
  obtain ⟨y, e1, f1⟩ := f.out _ _ _ h
  exact ⟨[], y, Says.nil, e1, fun R' k' γ K' _ _ => (e R' k' γ K').trans (f1 γ K')⟩⟩
theorem FacR.bind {G : Orc → Nat → (γ : Type) → (δ → Option γ) → Option γ} {H : δ → Orc → Nat → (γ : Type) → (α → Option γ) → Option γ} (g : FacR G) (h : ∀ x, FacR (H x)) (e : ∀ R k γ K, F R k γ K = G R k γ (fun x => H x R k γ K)) : FacR F := ⟨fun R k β K r hr => by
  rw [e] at hr
  obtain ⟨q1, x, s1, e1, f1⟩ := g.out _ _ _ _ _ hr
  obtain ⟨q2, y, s2, e2, f2⟩ := (h x).out _ _ _ _ _ e1
  exact ⟨q1 ++ q2, y, s1.append s2, e2, fun R' k' γ K' hk hs => by rw [e, f1 R' k' _ _ hk hs.left]; exact f2 R' k' γ K' hk hs.right⟩⟩
theorem FacR.when {c : Bool} (f : FacR F') (e : ∀ R k γ K, F R k γ K = Ab.when c (F' R k γ K)) : FacR F := ⟨fun R k β K r h => by
  rw [e] at h
  obtain ⟨hc, h⟩ := when_some h
  obtain ⟨q, y, s1, e1, f1⟩ := f.out _ _ _ _ _ h
  exact ⟨q, y, s1, e1, fun R' k' γ K' hk hs => by rw [e, hc]; exact f1 R' k' γ K' hk hs⟩⟩
theorem FacR.of (f : FacR F') (e : ∀ R k γ K, F R k γ K = F' R k γ K) : FacR F := by
  have : F = F' := by funext R k γ K; exact e R k γ K
  rw [this]; exact f
end

theorem query_facR (f : Nat) (ts : List TV) : FacR (fun R _ γ (K : Ans → Option γ) => match R f ts with | none => none | some a => K a) := ⟨fun R k β K r h => by
  revert h
  cases hR : R f ts with
  | none => intro h; cases h
  | some a =>
    intro h
    refine ⟨[(f, ts, a)], a, fun q hq => ?_, h, fun R' k' γ K' _ hs => ?_⟩
    · rw [List.mem_singleton.1 hq]; exact hR
    · rw [hs (f, ts, a) (List.mem_singleton.2 rfl)]⟩

theorem stepI_facR (key : Nat) (st : St) (i : AI) : FacR (fun R _ γ (K : LV × St → Option γ) => stepI R key st i fun v s => K (v, s)) := by
  by_cases hc : ∃ f args outs, i = .call f args outs
  · obtain ⟨f, args, outs, rfl⟩ := hc
    refine .bind (.ofFac (evs_fac st (args.map Prod.fst)) fun _ _ _ _ => rfl) (H := fun vs R _ γ K => gives st.heap (vs.zip (args.map Prod.snd)) fun gs h => fills h gs fun ts ks =>
      when (nodupB ks && ts.all TV.lends) (match R f ts with
        | none => none
        | some r => when (formed outs ks r) (backs h ks r.2 { st with heap := h } fun st => takes key outs r.1 st fun l st => K (one l, st)))) (fun vs => ?_) (fun R k γ K => stepI_call R key st f args outs _)
    refine .bind (.ofFac (gives_fac (vs.zip (args.map Prod.snd)) st.heap) fun _ _ _ _ => rfl) (H := fun gs R _ γ K => fills gs.2 gs.1 fun ts ks =>
      when (nodupB ks && ts.all TV.lends) (match R f ts with
        | none => none
        | some r => when (formed outs ks r) (backs gs.2 ks r.2 { st with heap := gs.2 } fun st => takes key outs r.1 st fun l st => K (one l, st)))) (fun gs => ?_) (fun R k γ K => rfl)
    refine .bind (.ofFac (fills_fac gs.2 gs.1) fun _ _ _ _ => rfl) (H := fun ts R _ γ K =>
      when (nodupB ts.2 && ts.1.all TV.lends) (match R f ts.1 with
        | none => none
        | some r => when (formed outs ts.2 r) (backs gs.2 ts.2 r.2 { st with heap := gs.2 } fun st => takes key outs r.1 st fun l st => K (one l, st)))) (fun ts => ?_) (fun R k γ K => rfl)
    refine .when (c := nodupB ts.2 && ts.1.all TV.lends) ?_ (fun R k γ K => rfl)
    refine .bind (query_facR f ts.1) (H := fun r _ _ γ K => when (formed outs ts.2 r) (backs gs.2 ts.2 r.2 { st with heap := gs.2 } fun st => takes key outs r.1 st fun l st => K (one l, st))) (fun r => ?_) (fun R k γ K => rfl)
    refine .when (c := formed outs ts.2 r) ?_ (fun R k γ K => rfl)
    refine .bind (.ofFac (backs_fac gs.2 ts.2 r.2 { st with heap := gs.2 }) fun _ _ _ _ => rfl) (H := fun st' _ _ γ K => takes key outs r.1 st' fun l st => K (one l, st)) (fun st' => ?_) (fun R k γ K => rfl)
    exact .bind (.ofFac (takes_fac2 key outs r.1 st') fun _ _ _ _ => rfl) (H := fun l _ _ γ K => K (one l.1, l.2)) (fun l => .pure (one l.1, l.2) fun _ _ _ _ => rfl) (fun R k γ K => rfl)
  · by_cases hv : ∃ x args, i = .callV x args
    · obtain ⟨x, args, rfl⟩ := hv
      refine .bind (.ofFac (ev_fac st x) fun _ _ _ _ => rfl) (H := fun v R _ γ K => match v with
        | .fz e => when e.isFn (evs st args fun vs => frzs (frz 5) st.heap vs fun es h => match R e.fnN ((es ++ e.fnC).map .fz) with
          | none => none
          | some r => when (formed [.fz] [] r) (backs h [] r.2 { st with heap := h } fun st => takes key [.fz] r.1 st fun l st => K (one l, st)))
        | _ => none) (fun v => ?_) (fun R k γ K => stepI_callV R key st x args _)
      cases v with
      | fz e =>
        refine .when (c := e.isFn) (F' := fun R _ γ K => evs st args fun vs => frzs (frz 5) st.heap vs fun es h => match R e.fnN ((es ++ e.fnC).map .fz) with
          | none => none
          | some r => when (formed [.fz] [] r) (backs h [] r.2 { st with heap := h } fun st => takes key [.fz] r.1 st fun l st => K (one l, st))) ?_ (fun R k γ K => rfl)
        refine .bind (.ofFac (evs_fac st args) fun _ _ _ _ => rfl) (H := fun vs R _ γ K => frzs (frz 5) st.heap vs fun es h => match R e.fnN ((es ++ e.fnC).map .fz) with
          | none => none
          | some r => when (formed [.fz] [] r) (backs h [] r.2 { st with heap := h } fun st => takes key [.fz] r.1 st fun l st => K (one l, st))) (fun vs => ?_) (fun R k γ K => rfl)
        refine .bind (.ofFac (frzs_fac (f := fun γ => frz 5) (frz_fac 5) vs st.heap) fun _ _ _ _ => rfl) (H := fun p R _ γ K => match R e.fnN ((p.1 ++ e.fnC).map .fz) with
          | none => none
          | some r => when (formed [.fz] [] r) (backs p.2 [] r.2 { st with heap := p.2 } fun st => takes key [.fz] r.1 st fun l st => K (one l, st))) (fun p => ?_) (fun R k γ K => rfl)
        refine .bind (query_facR e.fnN ((p.1 ++ e.fnC).map .fz)) (H := fun r _ _ γ K => when (formed [.fz] [] r) (backs p.2 [] r.2 { st with heap := p.2 } fun st => takes key [.fz] r.1 st fun l st => K (one l, st))) (fun r => ?_) (fun R k γ K => rfl)
        refine .when (c := formed [.fz] [] r) (F' := fun _ _ γ K => backs p.2 [] r.2 { st with heap := p.2 } fun st => takes key [.fz] r.1 st fun l st => K (one l, st)) ?_ (fun R k γ K => rfl)
        refine .bind (.ofFac (backs_fac p.2 [] r.2 { st with heap := p.2 }) fun _ _ _ _ => rfl) (H := fun st' _ _ γ K => takes key [.fz] r.1 st' fun l st => K (one l, st)) (fun st' => ?_) (fun R k γ K => rfl)
        exact .bind (.ofFac (takes_fac2 key [.fz] r.1 st') fun _ _ _ _ => rfl) (H := fun l _ _ γ K => K (one l.1, l.2)) (fun l => .pure (one l.1, l.2) fun _ _ _ _ => rfl) (fun R k γ K => rfl)
      | _ => exact .fail fun _ _ _ _ => rfl
    · refine .ofFac (stepI_fac (fun _ _ => none) key st i) fun R k γ K => ?_
      cases i with
      | call f args outs => exact absurd ⟨f, args, outs, rfl⟩ hc
      | callV x args => exact absurd ⟨x, args, rfl⟩ hv
      | _ => rfl

theorem stepO_facR (o : AOper) (st : St) : FacR (fun R _ γ (K : St → Option γ) => stepO R o st K) := by
  have go : FacR (fun R _ γ (K : St → Option γ) => stepI R (4 * o.dst.getD 0) st o.ins fun v st' => K (putD st' o.dst v)) :=
    .bind (stepI_facR (4 * o.dst.getD 0) st o.ins) (fun p => .pure (putD p.2 o.dst p.1) fun _ _ _ _ => rfl) (fun R k γ K => rfl)
  have no : FacR (fun (_ : Orc) _ γ (K : St → Option γ) => K (putD st o.dst (.tup []))) := .pure _ fun _ _ _ _ => rfl
  unfold stepO
  rcases o.guard with _ | ⟨t, want⟩
  · exact go
  · dsimp only
    cases aget t st.env with
    | none => exact .fail fun _ _ _ _ => rfl
    | some v =>
      have gb : FacR (fun R _ γ (K : St → Option γ) => getB v fun b => match want with
          | true => (match b with | true => stepI R (4 * o.dst.getD 0) st o.ins fun v st' => K (putD st' o.dst v) | false => K (putD st o.dst (.tup [])))
          | false => (match b with | true => K (putD st o.dst (.tup [])) | false => stepI R (4 * o.dst.getD 0) st o.ins fun v st' => K (putD st' o.dst v))) := by
        refine .bind (.ofFac (getB_fac v) fun _ _ _ _ => rfl) (fun b => ?_) (fun R k γ K => rfl)
        cases want <;> cases b <;> first | exact go | exact no
      cases v with
      | tup l => cases l with
        | nil => exact no
        | cons => exact gb
      | _ => exact gb

theorem execOps_facR : ∀ (ops : List AOper) (st : St), FacR (fun R _ γ (K : St → Option γ) => execOps R ops st K)
  | [], st => .pure st fun _ _ _ _ => rfl
  | o :: r, st => .bind (stepO_facR o st) (fun st' => execOps_facR r st') (fun R k γ K => rfl)

theorem drawO_facR (o : AOper) (st : St) : FacR (fun R _ γ (K : St × TI → Option γ) => drawO R o st fun s t => K (s, t)) := by
  have go : ∀ g, FacR (fun R _ γ (K : St × TI → Option γ) => when (namesH (touch st o.ins.tmps o.dst) (restrict o.ins.tmps (touch st o.ins.tmps o.dst) st).heap && (restrict o.ins.tmps (touch st o.ins.tmps o.dst) st).env.all fun p => namesIn (touch st o.ins.tmps o.dst) p.2) (stepI R (4 * o.dst.getD 0) (restrict o.ins.tmps (touch st o.ins.tmps o.dst) st) o.ins fun v s =>
    when (namesIn (touch st o.ins.tmps o.dst) v && namesH (touch st o.ins.tmps o.dst) s.heap) (K (putD { env := st.env, heap := match o.ins.reads with | true => st.heap | false => mergeH s.heap (touch st o.ins.tmps o.dst) st.heap } o.dst v, ⟨o.ins.tmps ++ g, dstL o.dst, touch st o.ins.tmps o.dst, !o.ins.reads⟩)))) := by
    intro g
    refine .when ?_ fun _ _ _ _ => rfl
    refine .bind (stepI_facR (4 * o.dst.getD 0) (restrict o.ins.tmps (touch st o.ins.tmps o.dst) st) o.ins) (H := fun p _ _ γ K => when (namesIn (touch st o.ins.tmps o.dst) p.1 && namesH (touch st o.ins.tmps o.dst) p.2.heap) (K (putD { env := st.env, heap := match o.ins.reads with | true => st.heap | false => mergeH p.2.heap (touch st o.ins.tmps o.dst) st.heap } o.dst p.1, ⟨o.ins.tmps ++ g, dstL o.dst, touch st o.ins.tmps o.dst, !o.ins.reads⟩))) (fun p => ?_) (fun R k γ K => rfl)
    refine .when (c := namesIn (touch st o.ins.tmps o.dst) p.1 && namesH (touch st o.ins.tmps o.dst) p.2.heap) ?_ fun _ _ _ _ => rfl
    exact .pure _ fun _ _ _ _ => rfl
  have no : ∀ g : List Nat, FacR (fun (_ : Orc) _ γ (K : St × TI → Option γ) => K (putD st o.dst (.tup []), ⟨g, dstL o.dst, [], false⟩)) := fun g => .pure _ fun _ _ _ _ => rfl
  unfold drawO
  rcases o.guard with _ | ⟨t, want⟩
  · exact go []
  · dsimp only
    cases aget t st.env with
    | none => exact .fail fun _ _ _ _ => rfl
    | some v =>
      have gb : ∀ v, FacR (fun R _ γ (K : St × TI → Option γ) => getB v fun b => match want with
          | true => (match b with
            | true => when (namesH (touch st o.ins.tmps o.dst) (restrict o.ins.tmps (touch st o.ins.tmps o.dst) st).heap && (restrict o.ins.tmps (touch st o.ins.tmps o.dst) st).env.all fun p => namesIn (touch st o.ins.tmps o.dst) p.2) (stepI R (4 * o.dst.getD 0) (restrict o.ins.tmps (touch st o.ins.tmps o.dst) st) o.ins fun v s =>
    when (namesIn (touch st o.ins.tmps o.dst) v && namesH (touch st o.ins.tmps o.dst) s.heap) (K (putD { env := st.env, heap := match o.ins.reads with | true => st.heap | false => mergeH s.heap (touch st o.ins.tmps o.dst) st.heap } o.dst v, ⟨o.ins.tmps ++ [t], dstL o.dst, touch st o.ins.tmps o.dst, !o.ins.reads⟩)))
            | false => K (putD st o.dst (.tup []), ⟨[t], dstL o.dst, [], false⟩))
          | false => (match b with
            | true => K (putD st o.dst (.tup []), ⟨[t], dstL o.dst, [], false⟩)
            | false => when (namesH (touch st o.ins.tmps o.dst) (restrict o.ins.tmps (touch st o.ins.tmps o.dst) st).heap && (restrict o.ins.tmps (touch st o.ins.tmps o.dst) st).env.all fun p => namesIn (touch st o.ins.tmps o.dst) p.2) (stepI R (4 * o.dst.getD 0) (restrict o.ins.tmps (touch st o.ins.tmps o.dst) st) o.ins fun v s =>
    when (namesIn (touch st o.ins.tmps o.dst) v && namesH (touch st o.ins.tmps o.dst) s.heap) (K (putD { env := st.env, heap := match o.ins.reads with | true => st.heap | false => mergeH s.heap (touch st o.ins.tmps o.dst) st.heap } o.dst v, ⟨o.ins.tmps ++ [t], dstL o.dst, touch st o.ins.tmps o.dst, !o.ins.reads⟩))))) := by
        intro v
        refine .bind (.ofFac (getB_fac v) fun _ _ _ _ => rfl) (fun b => ?_) (fun R k γ K => rfl)
        cases want <;> cases b <;> first | exact go [t] | exact no [t]
      cases v with
      | tup l => cases l with
        | nil => exact no [t]
        | cons => exact gb _
      | _ => exact gb _

theorem drawRun_facR : ∀ (ops : List DOper) (st : St), FacR (fun R _ γ (K : St × List TI → Option γ) => drawRun R ops st fun s t => K (s, t))
  | [], st => .pure (st, []) fun _ _ _ _ => rfl
  | o :: r, st => .bind (drawO_facR o.o st) (fun p => .bind (drawRun_facR r p.1) (fun q => .pure (q.1, p.2 :: q.2) fun _ _ _ _ => rfl) (fun R k γ K => rfl)) (fun R k γ K => rfl)

section
variable (pin : List Nat)

theorem loopD_facR {c : ACode} (hc : ∀ st, FacR (fun R k γ (K : AExit × St → Option γ) => exec R k pin c γ st fun e s => K (e, s))) (live out : List Nat) {R : Orc} {k : Nat} : ∀ (n : Nat) (st : St) (r : AExit × St),
    loopD pin live out (exec R k pin c (AExit × St)) n st = some r → ∃ qs, Says R qs ∧ ∀ (R' : Orc) (k' n' : Nat), k ≤ k' → n ≤ n' → Says R' qs → loopD pin live out (exec R' k' pin c (AExit × St)) n' st = some r
  | 0, st, r, h => by cases h
  | n + 1, st, r, h => by
    simp only [loopD] at h
    obtain ⟨q1, ⟨e, st'⟩, s1, e1, f1⟩ := (hc st).out R k _ (fun p => match p.1 with
      | .normal => loopD pin live out (exec R k pin c (AExit × St)) n (canon pin live p.2)
      | e => some (e, canon pin out p.2)) r h
    cases e with
    | normal =>
      obtain ⟨q2, s2, f2⟩ := loopD_facR hc live out n _ r e1
      refine ⟨q1 ++ q2, s1.append s2, fun R' k' n' hk hn hs => ?_⟩
      obtain ⟨m, rfl⟩ : ∃ m, n' = m + 1 := ⟨n' - 1, by omega⟩
      simp only [loopD]
      refine (f1 R' k' _ (fun p => match p.1 with
        | .normal => loopD pin live out (exec R' k' pin c (AExit × St)) m (canon pin live p.2)
        | e => some (e, canon pin out p.2)) hk hs.left).trans ?_
      exact f2 R' k' m hk (by omega) hs.right
    | exit id =>
      refine ⟨q1, s1, fun R' k' n' hk hn hs => ?_⟩
      obtain ⟨m, rfl⟩ : ∃ m, n' = m + 1 := ⟨n' - 1, by omega⟩
      simp only [loopD]
      exact (f1 R' k' _ (fun p => match p.1 with
        | .normal => loopD pin live out (exec R' k' pin c (AExit × St)) m (canon pin live p.2)
        | e => some (e, canon pin out p.2)) hk hs).trans e1
    | ret =>
      refine ⟨q1, s1, fun R' k' n' hk hn hs => ?_⟩
      obtain ⟨m, rfl⟩ : ∃ m, n' = m + 1 := ⟨n' - 1, by omega⟩
      simp only [loopD]
      exact (f1 R' k' _ (fun p => match p.1 with
        | .normal => loopD pin live out (exec R' k' pin c (AExit × St)) m (canon pin live p.2)
        | e => some (e, canon pin out p.2)) hk hs).trans e1

theorem exec_facR : ∀ (c : ACode) (st : St), FacR (fun R k γ (K : AExit × St → Option γ) => exec R k pin c γ st fun e s => K (e, s))
  | .skip, st => .pure (.normal, st) fun _ _ _ _ => rfl
  | .region ops, st => .bind (execOps_facR ops st) (fun st' => .pure (.normal, st') fun _ _ _ _ => rfl) (fun R k γ K => rfl)
  | .draws ops, st => .bind (drawRun_facR ops st) (fun p => .when (c := depsOk 0 (ops.map DOper.deps) && indep (maskTab [] (ops.map DOper.deps)) p.2) (.pure (.normal, p.1) fun _ _ _ _ => rfl) fun _ _ _ _ => rfl) (fun R k γ K => rfl)
  | .seq a b, st => by
    refine .bind (exec_facR a st) (H := fun p R k γ K => match p.1 with
      | .normal => exec R k pin b γ p.2 fun e s => K (e, s)
      | e => K (e, p.2)) (fun p => ?_) (fun R k γ K => rfl)
    obtain ⟨e, s⟩ := p
    cases e with
    | normal => exact exec_facR b s
    | exit id => exact .pure (.exit id, s) fun _ _ _ _ => rfl
    | ret => exact .pure (.ret, s) fun _ _ _ _ => rfl
  | .cond c a b, st => by
    refine .bind (.ofFac (ev_fac st c) fun _ _ _ _ => rfl) (fun v => ?_) (fun R k γ K => rfl)
    refine .bind (.ofFac (getB_fac v) fun _ _ _ _ => rfl) (H := fun t R k γ K => match t with
      | true => exec R k pin a γ st fun e s => K (e, s)
      | false => exec R k pin b γ st fun e s => K (e, s)) (fun t => ?_) (fun R k γ K => rfl)
    cases t with
    | true => exact exec_facR a st
    | false => exact exec_facR b st
  | .block id c, st => by
    refine .bind (exec_facR c st) (H := fun p R k γ K => match p.1 with
      | .exit j => bif j == id then K (.normal, p.2) else K (.exit j, p.2)
      | e => K (e, p.2)) (fun p => ?_) (fun R k γ K => rfl)
    obtain ⟨e, s⟩ := p
    cases e with
    | normal => exact .pure (.normal, s) fun _ _ _ _ => rfl
    | ret => exact .pure (.ret, s) fun _ _ _ _ => rfl
    | exit j =>
      dsimp only
      cases j == id with
      | true => exact .pure (.normal, s) fun _ _ _ _ => rfl
      | false => exact .pure (.exit j, s) fun _ _ _ _ => rfl
  | .loop live out c, st => ⟨fun R k β K r h => by
    simp only [exec] at h
    cases hl : loopD pin live out (exec R k pin c (AExit × St)) k (canon pin live st) with
    | none => rw [hl] at h; cases h
    | some p =>
      rw [hl] at h
      obtain ⟨qs, s1, f1⟩ := loopD_facR pin (fun st => exec_facR c st) live out k _ p hl
      refine ⟨qs, p, s1, h, fun R' k' γ K' hk hs => ?_⟩
      simp only [exec]
      rw [f1 R' k' k' hk hk hs]⟩
  | .trim live c, st => (exec_facR c (canon pin live st)).of fun _ _ _ _ => rfl
  | .exit id, st => .pure (.exit id, st) fun _ _ _ _ => rfl
  | .ret, st => .pure (.ret, st) fun _ _ _ _ => rfl
end

end Go.Ab
/- The abstract machine: what it tells without a bound on rounds: an oracle RR that answers all that some number of rounds tells. -/
namespace Go.Ab

theorem leaves_indep {R R' : Orc} (st : St) : ∀ (l : List RV) (K : List LV → Option Ans), leaves R st l K = leaves R' st l K
  | [], K => rfl
  | .tmp t :: r, K => by
    simp only [leaves]
    congr 1; funext v; exact leaves_indep st r _
  | .cell a n agg :: r, K => by
    simp only [leaves]
    have h : ∀ K', stepI R 0 st (.load n agg (.t a)) K' = (stepI R' 0 st (.load n agg (.t a)) K' : Option Ans) := fun K' => rfl
    rw [h]
    congr 1; funext v s; exact leaves_indep st r _

theorem callF_facR {R : Orc} {k : Nat} {af : AFunc} {ts : List TV} {r : Ans} (h : callF R k af ts = some r) :
    ∃ qs, Says R qs ∧ ∀ (R' : Orc) (k' : Nat), k ≤ k' → Says R' qs → callF R' k' af ts = some r := by
  unfold callF at h
  obtain ⟨hc, h⟩ := when_some h
  obtain ⟨qs, y, s1, e1, f1⟩ := (exec_facR (pinsOf 0 ts) af.body (enters 0 ts)).out R k Ans (fun p => match p.1 with
    | .exit _ => none
    | _ => leaves R p.2 (af.res.map Prod.fst) fun vs => chills p.2.heap (pinsOf 0 ts) fun h0 => gives h0 (vs.zip (af.res.map Prod.snd)) fun gs h => fills h gs fun us ks => pinned h (pinsOf 0 ts) fun l => when (nodupB (ks ++ pinsOf 0 ts)) (some (us, l))) r h
  refine ⟨qs, s1, fun R' k' hk hs => ?_⟩
  unfold callF
  rw [hc]
  refine (f1 R' k' Ans (fun p => match p.1 with
    | .exit _ => none
    | _ => leaves R' p.2 (af.res.map Prod.fst) fun vs => chills p.2.heap (pinsOf 0 ts) fun h0 => gives h0 (vs.zip (af.res.map Prod.snd)) fun gs h => fills h gs fun us ks => pinned h (pinsOf 0 ts) fun l => when (nodupB (ks ++ pinsOf 0 ts)) (some (us, l))) hk hs).trans ?_
  rw [← e1]
  obtain ⟨e, st⟩ := y
  cases e with
  | exit id => rfl
  | normal => exact leaves_indep st _ _
  | ret => exact leaves_indep st _ _

section
variable {tab : Nat → Option AFunc}

theorem run_mono : ∀ {k k' f : Nat} {ts : List TV} {r : Ans}, k ≤ k' → run tab k f ts = some r → run tab k' f ts = some r
  | 0, _, f, ts, r, _, h => by cases h
  | k + 1, k', f, ts, r, hk, h => by
    obtain ⟨m, rfl⟩ : ∃ m, k' = m + 1 := ⟨k' - 1, by omega⟩
    simp only [run] at h ⊢
    cases ht : tab f with
    | none => rw [ht] at h; cases h
    | some af =>
      rw [ht] at h
      cases hp : af.prim with
      | some p => simp only [hp] at h ⊢; exact h
      | none =>
        simp only [hp] at h ⊢
        obtain ⟨qs, s1, f1⟩ := callF_facR h
        exact f1 (run tab m) m (by omega) fun q hq => run_mono (by omega) (s1 q hq)

/-- Some number of rounds tells it. -/
def Tells (tab : Nat → Option AFunc) (f : Nat) (ts : List TV) (r : Ans) : Prop := ∃ k, run tab k f ts = some r

theorem Tells.unique {f : Nat} {ts : List TV} {r r' : Ans} (h : Tells tab f ts r) (h' : Tells tab f ts r') : r = r' := by
  obtain ⟨k, h⟩ := h
  obtain ⟨k', h'⟩ := h'
  have a := run_mono (Nat.le_max_left k k') h
  have b := run_mono (Nat.le_max_right k k') h'
  rw [a] at b; cases b; rfl

open Classical in
/-- The oracle that answers all that some number of rounds tells. -/
noncomputable def RR (tab : Nat → Option AFunc) : Orc := fun f ts => if h : ∃ r, Tells tab f ts r then some (Classical.choose h) else none

theorem RR_tells {f : Nat} {ts : List TV} {r : Ans} : RR tab f ts = some r ↔ Tells tab f ts r := by
  unfold RR
  constructor
  · intro h
    split at h
    · rename_i hx; cases h; exact Classical.choose_spec hx
    · cases h
  · intro h
    have hx : ∃ r, Tells tab f ts r := ⟨r, h⟩
    rw [dif_pos hx]
    exact congrArg some ((Classical.choose_spec hx).unique h)

theorem says_run : ∀ {qs : List (Nat × List TV × Ans)}, Says (RR tab) qs → ∃ k, Says (run tab k) qs
  | [], _ => ⟨0, Says.nil⟩
  | q :: qs, h => by
    obtain ⟨k, hk⟩ := says_run (qs := qs) fun p hp => h p (List.mem_cons_of_mem _ hp)
    obtain ⟨j, hj⟩ := RR_tells.1 (h q (List.mem_cons_self ..))
    refine ⟨max k j, fun p hp => ?_⟩
    rcases List.mem_cons.1 hp with rfl | hp
    · exact run_mono (Nat.le_max_right k j) hj
    · exact run_mono (Nat.le_max_left k j) (hk p hp)

/-- A function's call is told, if its code tells it by what is told of its calls. -/
theorem RR_prim {f : Nat} {af : AFunc} {p : List TV → Option Ans} {ts : List TV} {r : Ans} (hf : tab f = some af) (hp : af.prim = some p) (h : p ts = some r) : RR tab f ts = some r :=
  RR_tells.2 ⟨1, by simp only [run, hf, hp]; exact h⟩
theorem RR_of {f : Nat} {af : AFunc} {ts : List TV} {r : Ans} (hf : tab f = some af) (hp : af.prim = none) (k : Nat) (h : callF (RR tab) k af ts = some r) : RR tab f ts = some r := by
  obtain ⟨qs, s1, f1⟩ := callF_facR h
  obtain ⟨j, hj⟩ := says_run s1
  refine RR_tells.2 ⟨max k j + 1, ?_⟩
  simp only [run, hf, hp]
  exact f1 _ _ (Nat.le_max_left k j) fun q hq => run_mono (Nat.le_max_right k j) (hj q hq)
end

end Go.Ab
/- The abstract machine: the same, but what a branch asked is known behind it: so a text of what it does asks once. -/
namespace Go.Ab

def alearn {α : Type} (k : Nat) (v : α) : List (Nat × α) → List (Nat × α)
  | [] => []
  | (j, u) :: r => bif j == k then (j, v) :: r else (j, u) :: alearn k v r

theorem alearn_eq {α : Type} {k : Nat} {v : α} : ∀ {l : List (Nat × α)}, aget k l = some v → alearn k v l = l
  | [], _ => rfl
  | (j, u) :: r, h => by
    simp only [aget, alearn] at h ⊢
    cases hb : j == k with
    | true => rw [hb] at h; simp only [cond_true] at h ⊢; cases h; rfl
    | false => rw [hb] at h; simp only [cond_false] at h ⊢; rw [alearn_eq h]

def St.learn (st : St) (t : Nat) (b : Bool) : St := { st with env := alearn t (.fz (.bool b)) st.env }
def learnC (st : St) : Opnd → Bool → St
  | .t n, b => st.learn n b
  | .c _, _ => st

theorem isBool_eq {v : LV} (h : v.isBool = true) : v = .fz (.bool v.toBool) := by
  cases v with
  | fz v => cases v with
    | bool b => rfl
    | _ => cases h
  | _ => cases h

theorem St.learn_eq {st : St} {t : Nat} {b : Bool} (h : aget t st.env = some (.fz (.bool b))) : st.learn t b = st := by
  unfold St.learn; rw [alearn_eq h]

/-- A list, looked through to its end before what follows. -/
def forceL {α β : Type} : List α → (List α → Option β) → Option β
  | [], K => K []
  | a :: r, K => forceL r fun r' => K (a :: r')
theorem forceL_eq {α β : Type} : ∀ (l : List α) (K : List α → Option β), forceL l K = K l
  | [], _ => rfl
  | a :: r, K => forceL_eq r _
def forceS {β : Type} (st : St) (K : St → Option β) : Option β := forceL st.env fun e => forceL st.heap fun h => K ⟨e, h⟩
theorem forceS_eq {β : Type} (st : St) (K : St → Option β) : forceS st K = K st := by
  unfold forceS; rw [forceL_eq, forceL_eq]

theorem when_tr {β : Type} (x : Option β) : when true x = x := rfl

/-- A value of a kind that is known. -/
def kindK {β : Type} (k : Option EK) (v : LV) (K : LV → Option β) : Option β := match k with
  | none => K v
  | some (.int k) => when (v.isInt k) (K (.fz (.int k v.toInt)))
  | some .bool => when v.isBool (K (.fz (.bool v.toBool)))
  | some .str => when v.isStr (K (.fz (.str v.toStr)))

theorem kindK_some {β : Type} {k : Option EK} {v : LV} {K : LV → Option β} {r : β} (h : kindK k v K = some r) : K v = some r := by
  unfold kindK at h
  split at h
  · exact h
  · obtain ⟨h1, h2⟩ := when_some h
    cases v with
    | fz v => cases v with
      | int k' n => simp [LV.isInt, FV.isInt] at h1; subst h1; exact h2
      | _ => cases h1
    | _ => cases h1
  · obtain ⟨h1, h2⟩ := when_some h
    cases v with
    | fz v => cases v with
      | bool b => exact h2
      | _ => cases h1
    | _ => cases h1
  · obtain ⟨h1, h2⟩ := when_some h
    cases v with
    | fz v => cases v with
      | str b => exact h2
      | _ => cases h1
    | _ => cases h1

section
variable (R : Orc) {β : Type}

def stepIL (key : Nat) (st : St) (i : AI) (K : LV → St → Option β) : Option β :=
  match i with
  | .pick c a b => ev st c fun v => getB v fun t => match t with
    | true => ev st a fun v => K v (learnC st c true)
    | false => ev st b fun v => K v (learnC st c false)
  | i => stepI R key st i K

theorem ev_learn (st : St) (c : Opnd) (F G : St → Option β) : (ev st c fun v => getB v fun t => match t with
    | true => F (learnC st c true)
    | false => G (learnC st c false)) = ev st c fun v => getB v fun t => match t with
    | true => F st
    | false => G st := by
  cases c with
  | c v => rfl
  | t n =>
    simp only [ev]
    cases h : aget n st.env with
    | none => rfl
    | some v =>
      simp only [getB]
      cases hb : v.isBool with
      | false => rfl
      | true =>
        have hv := isBool_eq hb
        rw [hv] at h
        simp only [Ab.when]
        cases hq : v.toBool with
        | true => rw [hq] at h; simp only [learnC, St.learn_eq h]
        | false => rw [hq] at h; simp only [learnC, St.learn_eq h]

theorem stepIL_eq (key : Nat) (st : St) (i : AI) (K : LV → St → Option β) : stepIL R key st i K = stepI R key st i K := by
  cases i with
  | pick c a b => exact ev_learn st c (fun s => ev st a fun v => K v s) (fun s => ev st b fun v => K v s)
  | _ => rfl

def goO (o : AOper) (st : St) (K : St → Option β) : Option β := stepIL R (4 * o.dst.getD 0) st o.ins fun v st' => kindK o.kind v fun v => forceS (putD st' o.dst v) K
def noO (o : AOper) (st : St) (K : St → Option β) : Option β := forceS (putD st o.dst (.tup [])) K

def stepOL (o : AOper) (st : St) (K : St → Option β) : Option β :=
  match o.guard with
  | none => goO R o st K
  | some (t, want) => match aget t st.env with
    | some (.tup []) => noO o st K
    | some v => getB v fun b => match want with
      | true => (match b with
        | true => goO R o (st.learn t true) K
        | false => noO o (st.learn t false) K)
      | false => (match b with
        | true => noO o (st.learn t true) K
        | false => goO R o (st.learn t false) K)
    | none => none

theorem goO_ref {o : AOper} {st : St} {K K' : St → Option β} {r : β} (hK : ∀ s, K s = some r → K' s = some r) (h : goO R o st K = some r) : (stepI R (4 * o.dst.getD 0) st o.ins fun v st' => K' (putD st' o.dst v)) = some r := by
  unfold goO at h
  rw [stepIL_eq] at h
  obtain ⟨y, h1, f⟩ := (stepI_fac R (4 * o.dst.getD 0) st o.ins).out β (fun p => kindK o.kind p.1 fun v => forceS (putD p.2 o.dst v) K) r h
  have h2 := kindK_some h1
  rw [forceS_eq] at h2
  exact (f β fun p => K' (putD p.2 o.dst p.1)).trans (hK _ h2)

theorem noO_ref {o : AOper} {st : St} {K K' : St → Option β} {r : β} (hK : ∀ s, K s = some r → K' s = some r) (h : noO o st K = some r) : K' (putD st o.dst (.tup [])) = some r := by
  unfold noO at h
  rw [forceS_eq] at h
  exact hK _ h

theorem stepOL_ref {o : AOper} {st : St} {K K' : St → Option β} {r : β} (hK : ∀ s, K s = some r → K' s = some r) (h : stepOL R o st K = some r) : stepO R o st K' = some r := by
  unfold stepOL at h
  unfold stepO
  rcases hg : o.guard with _ | ⟨t, want⟩
  · rw [hg] at h; exact goO_ref R hK h
  · rw [hg] at h
    dsimp only at h ⊢
    cases ht : aget t st.env with
    | none => rw [ht] at h; cases h
    | some v =>
      rw [ht] at h
      have gen : (getB v fun b => match want with
          | true => (match b with
            | true => goO R o (st.learn t true) K
            | false => noO o (st.learn t false) K)
          | false => (match b with
            | true => noO o (st.learn t true) K
            | false => goO R o (st.learn t false) K)) = some r → (getB v fun b => match want with
          | true => (match b with | true => stepI R (4 * o.dst.getD 0) st o.ins fun v st' => K' (putD st' o.dst v) | false => K' (putD st o.dst (.tup [])))
          | false => (match b with | true => K' (putD st o.dst (.tup [])) | false => stepI R (4 * o.dst.getD 0) st o.ins fun v st' => K' (putD st' o.dst v))) = some r := fun h => by
        simp only [getB] at h ⊢
        obtain ⟨hb, h⟩ := when_some h
        rw [hb, when_tr]
        have hv := isBool_eq hb
        have hl : st.learn t v.toBool = st := St.learn_eq (by rw [ht]; exact congrArg some hv)
        cases hq : v.toBool <;> rw [hq] at h hl <;> cases want <;> simp only [hl] at h ⊢ <;> first | exact goO_ref R hK h | exact noO_ref hK h
      cases v with
      | tup l => cases l with
        | nil => exact noO_ref hK h
        | cons => exact gen h
      | _ => exact gen h

theorem ev_learnR (st st0 : St) (hs : ∀ n v, aget n st0.env = some v → aget n st.env = some v) (c : Opnd) (F G : St → Option β) : (ev st0 c fun v => getB v fun t => match t with
    | true => F (learnC st c true)
    | false => G (learnC st c false)) = ev st0 c fun v => getB v fun t => match t with
    | true => F st
    | false => G st := by
  cases c with
  | c v => rfl
  | t n =>
    simp only [ev]
    cases h0 : aget n st0.env with
    | none => rfl
    | some v =>
      have h := hs n v h0
      simp only [getB]
      cases hb : v.isBool with
      | false => rfl
      | true =>
        have hv := isBool_eq hb
        rw [hv] at h
        simp only [Ab.when]
        cases hq : v.toBool with
        | true => rw [hq] at h; simp only [learnC, St.learn_eq h]
        | false => rw [hq] at h; simp only [learnC, St.learn_eq h]

def goD (o : AOper) (st : St) (g : List Nat) (K : St → TI → Option β) : Option β :=
  when (namesH (touch st o.ins.tmps o.dst) (restrict o.ins.tmps (touch st o.ins.tmps o.dst) st).heap && (restrict o.ins.tmps (touch st o.ins.tmps o.dst) st).env.all fun p => namesIn (touch st o.ins.tmps o.dst) p.2) (stepI R (4 * o.dst.getD 0) (restrict o.ins.tmps (touch st o.ins.tmps o.dst) st) o.ins fun v s => kindK o.kind v fun v =>
    when (namesIn (touch st o.ins.tmps o.dst) v && namesH (touch st o.ins.tmps o.dst) s.heap) (K (putD { env := st.env, heap := match o.ins.reads with | true => st.heap | false => mergeH s.heap (touch st o.ins.tmps o.dst) st.heap } o.dst v) ⟨o.ins.tmps ++ g, dstL o.dst, touch st o.ins.tmps o.dst, !o.ins.reads⟩))

def goPick (k : Option EK) (d : Option Nat) (c a b : Opnd) (st : St) (g : List Nat) (K : St → TI → Option β) : Option β :=
  let ts := (AI.pick c a b).tmps
  let T := touch st ts d
  let r := restrict ts T st
  let go := fun (x : Opnd) (s : St) => ev r x fun v => kindK k v fun v => when (namesIn T v && namesH T r.heap) (K (putD { env := s.env, heap := st.heap } d v) ⟨ts ++ g, dstL d, T, false⟩)
  when (namesH T r.heap && r.env.all fun p => namesIn T p.2) (ev r c fun v => getB v fun t => match t with
    | true => go a (learnC st c true)
    | false => go b (learnC st c false))

def goL (o : AOper) (st : St) (g : List Nat) (K : St → TI → Option β) : Option β :=
  match o.ins with
  | .pick c a b => goPick o.kind o.dst c a b st g K
  | _ => goD R o st g K

theorem restrict_env (ts T : List Nat) (st : St) (n : Nat) (v : LV) (h : aget n (restrict ts T st).env = some v) : aget n st.env = some v := by
  simp only [restrict] at h
  rw [pickA_get] at h
  split at h
  · exact h
  · cases h

theorem goL_eq (o : AOper) (st : St) (g : List Nat) (K : St → TI → Option β) : goL R o st g K = goD R o st g K := by
  unfold goL
  split
  · rename_i c a b h
    unfold goD goPick
    rw [h]
    dsimp only
    rw [ev_learnR st _ (restrict_env _ _ st) c (fun s => ev (restrict (AI.pick c a b).tmps (touch st (AI.pick c a b).tmps o.dst) st) a fun v => kindK o.kind v fun v => when (namesIn (touch st (AI.pick c a b).tmps o.dst) v && namesH (touch st (AI.pick c a b).tmps o.dst) (restrict (AI.pick c a b).tmps (touch st (AI.pick c a b).tmps o.dst) st).heap) (K (putD { env := s.env, heap := st.heap } o.dst v) ⟨(AI.pick c a b).tmps ++ g, dstL o.dst, touch st (AI.pick c a b).tmps o.dst, false⟩)) (fun s => ev (restrict (AI.pick c a b).tmps (touch st (AI.pick c a b).tmps o.dst) st) b fun v => kindK o.kind v fun v => when (namesIn (touch st (AI.pick c a b).tmps o.dst) v && namesH (touch st (AI.pick c a b).tmps o.dst) (restrict (AI.pick c a b).tmps (touch st (AI.pick c a b).tmps o.dst) st).heap) (K (putD { env := s.env, heap := st.heap } o.dst v) ⟨(AI.pick c a b).tmps ++ g, dstL o.dst, touch st (AI.pick c a b).tmps o.dst, false⟩))]
    rfl
  · rfl

def drawOL (o : AOper) (st : St) (K : St → TI → Option β) : Option β :=
  match o.guard with
  | none => goL R o st [] K
  | some (t, want) => match aget t st.env with
    | some (.tup []) => K (putD st o.dst (.tup [])) ⟨[t], dstL o.dst, [], false⟩
    | some v => getB v fun b => match want with
      | true => (match b with
        | true => goL R o (st.learn t true) [t] K
        | false => K (putD (st.learn t false) o.dst (.tup [])) ⟨[t], dstL o.dst, [], false⟩)
      | false => (match b with
        | true => K (putD (st.learn t true) o.dst (.tup [])) ⟨[t], dstL o.dst, [], false⟩
        | false => goL R o (st.learn t false) [t] K)
    | none => none

theorem goL_ref {o : AOper} {st : St} {g : List Nat} {K K' : St → TI → Option β} {r : β} (hK : ∀ s t, K s t = some r → K' s t = some r) (h : goL R o st g K = some r) :
    when (namesH (touch st o.ins.tmps o.dst) (restrict o.ins.tmps (touch st o.ins.tmps o.dst) st).heap && (restrict o.ins.tmps (touch st o.ins.tmps o.dst) st).env.all fun p => namesIn (touch st o.ins.tmps o.dst) p.2) (stepI R (4 * o.dst.getD 0) (restrict o.ins.tmps (touch st o.ins.tmps o.dst) st) o.ins fun v s =>
    when (namesIn (touch st o.ins.tmps o.dst) v && namesH (touch st o.ins.tmps o.dst) s.heap) (K' (putD { env := st.env, heap := match o.ins.reads with | true => st.heap | false => mergeH s.heap (touch st o.ins.tmps o.dst) st.heap } o.dst v) ⟨o.ins.tmps ++ g, dstL o.dst, touch st o.ins.tmps o.dst, !o.ins.reads⟩)) = some r := by
  rw [goL_eq] at h
  unfold goD at h
  obtain ⟨h0, h⟩ := when_some h
  rw [h0]
  obtain ⟨y, h1, f⟩ := (stepI_fac R (4 * o.dst.getD 0) (restrict o.ins.tmps (touch st o.ins.tmps o.dst) st) o.ins).out β (fun p => kindK o.kind p.1 fun v =>
    when (namesIn (touch st o.ins.tmps o.dst) v && namesH (touch st o.ins.tmps o.dst) p.2.heap) (K (putD { env := st.env, heap := match o.ins.reads with | true => st.heap | false => mergeH p.2.heap (touch st o.ins.tmps o.dst) st.heap } o.dst v) ⟨o.ins.tmps ++ g, dstL o.dst, touch st o.ins.tmps o.dst, !o.ins.reads⟩)) r h
  obtain ⟨h2, h3⟩ := when_some (kindK_some h1)
  refine (f β fun p => when (namesIn (touch st o.ins.tmps o.dst) p.1 && namesH (touch st o.ins.tmps o.dst) p.2.heap) (K' (putD { env := st.env, heap := match o.ins.reads with | true => st.heap | false => mergeH p.2.heap (touch st o.ins.tmps o.dst) st.heap } o.dst p.1) ⟨o.ins.tmps ++ g, dstL o.dst, touch st o.ins.tmps o.dst, !o.ins.reads⟩)).trans ?_
  show when _ _ = some r
  rw [h2]
  exact hK _ _ h3

theorem drawOL_ref {o : AOper} {st : St} {K K' : St → TI → Option β} {r : β} (hK : ∀ s t, K s t = some r → K' s t = some r) (h : drawOL R o st K = some r) : drawO R o st K' = some r := by
  unfold drawOL at h
  unfold drawO
  dsimp only
  rcases hg : o.guard with _ | ⟨t, want⟩
  · rw [hg] at h; exact goL_ref R hK h
  · rw [hg] at h
    dsimp only at h ⊢
    cases ht : aget t st.env with
    | none => rw [ht] at h; cases h
    | some v =>
      rw [ht] at h
      have gen : (getB v fun b => match want with
          | true => (match b with
            | true => goL R o (st.learn t true) [t] K
            | false => K (putD (st.learn t false) o.dst (.tup [])) ⟨[t], dstL o.dst, [], false⟩)
          | false => (match b with
            | true => K (putD (st.learn t true) o.dst (.tup [])) ⟨[t], dstL o.dst, [], false⟩
            | false => goL R o (st.learn t false) [t] K)) = some r → (getB v fun b => match want with
          | true => (match b with
            | true => when (namesH (touch st o.ins.tmps o.dst) (restrict o.ins.tmps (touch st o.ins.tmps o.dst) st).heap && (restrict o.ins.tmps (touch st o.ins.tmps o.dst) st).env.all fun p => namesIn (touch st o.ins.tmps o.dst) p.2) (stepI R (4 * o.dst.getD 0) (restrict o.ins.tmps (touch st o.ins.tmps o.dst) st) o.ins fun v s =>
    when (namesIn (touch st o.ins.tmps o.dst) v && namesH (touch st o.ins.tmps o.dst) s.heap) (K' (putD { env := st.env, heap := match o.ins.reads with | true => st.heap | false => mergeH s.heap (touch st o.ins.tmps o.dst) st.heap } o.dst v) ⟨o.ins.tmps ++ [t], dstL o.dst, touch st o.ins.tmps o.dst, !o.ins.reads⟩))
            | false => K' (putD st o.dst (.tup [])) ⟨[t], dstL o.dst, [], false⟩)
          | false => (match b with
            | true => K' (putD st o.dst (.tup [])) ⟨[t], dstL o.dst, [], false⟩
            | false => when (namesH (touch st o.ins.tmps o.dst) (restrict o.ins.tmps (touch st o.ins.tmps o.dst) st).heap && (restrict o.ins.tmps (touch st o.ins.tmps o.dst) st).env.all fun p => namesIn (touch st o.ins.tmps o.dst) p.2) (stepI R (4 * o.dst.getD 0) (restrict o.ins.tmps (touch st o.ins.tmps o.dst) st) o.ins fun v s =>
    when (namesIn (touch st o.ins.tmps o.dst) v && namesH (touch st o.ins.tmps o.dst) s.heap) (K' (putD { env := st.env, heap := match o.ins.reads with | true => st.heap | false => mergeH s.heap (touch st o.ins.tmps o.dst) st.heap } o.dst v) ⟨o.ins.tmps ++ [t], dstL o.dst, touch st o.ins.tmps o.dst, !o.ins.reads⟩)))) = some r := fun h => by
        simp only [getB] at h ⊢
        obtain ⟨hb, h⟩ := when_some h
        rw [hb, when_tr]
        have hv := isBool_eq hb
        have hl : st.learn t v.toBool = st := St.learn_eq (by rw [ht]; exact congrArg some hv)
        cases hq : v.toBool <;> rw [hq] at h hl <;> cases want <;> simp only [hl] at h ⊢ <;> first | exact goL_ref R hK h | exact hK _ _ h
      cases v with
      | tup l => cases l with
        | nil => exact hK _ _ h
        | cons => exact gen h
      | _ => exact gen h

def drawRunL : List DOper → St → (St → List TI → Option β) → Option β
  | [], st, K => K st []
  | o :: r, st, K => drawOL R o.o st fun st' ti => forceS st' fun st' => drawRunL r st' fun st'' tis => K st'' (ti :: tis)

theorem drawRunL_ref : ∀ (l : List DOper) {st : St} {K K' : St → List TI → Option β} {r : β}, (∀ s t, K s t = some r → K' s t = some r) → drawRunL R l st K = some r → drawRun R l st K' = some r
  | [], _, _, _, _, hK, h => hK _ _ h
  | o :: l, st, K, K', r, hK, h => by
    simp only [drawRunL] at h
    simp only [drawRun]
    refine drawOL_ref R (fun s t hs => ?_) h
    rw [forceS_eq] at hs
    exact drawRunL_ref l (fun s' ts => hK _ _) hs

def execOpsL : List AOper → St → (St → Option β) → Option β
  | [], st, K => K st
  | o :: r, st, K => stepOL R o st fun st' => execOpsL r st' K

theorem execOpsL_ref : ∀ (l : List AOper) {st : St} {K K' : St → Option β} {r : β}, (∀ s, K s = some r → K' s = some r) → execOpsL R l st K = some r → execOps R l st K' = some r
  | [], _, _, _, _, hK, h => hK _ h
  | o :: l, st, K, K', r, hK, h => by
    simp only [execOpsL] at h
    simp only [execOps]
    exact stepOL_ref R (fun s hs => execOpsL_ref l hK hs) h
end

section
/-- What lies behind a gate: it is told where the gate is open. -/
def jump {β : Type} (w : Bool) (x : Option β) : Option β := match w with | true => x | false => none
@[simp] theorem jump_true {β : Type} (x : Option β) : jump true x = x := (rfl)
/-- One of two, by a truth. -/
def ifB {β : Type} (c : Bool) (x y : Option β) : Option β := match c with | true => x | false => y
@[simp] theorem ifB_true {β : Type} (x y : Option β) : ifB true x y = x := (rfl)
@[simp] theorem ifB_false {β : Type} (x y : Option β) : ifB false x y = y := (rfl)

variable (R : Orc) (k : Nat) (w : Bool) (pin : List Nat)

def execL : ACode → (β : Type) → St → (AExit → St → Option β) → Option β
  | .skip, _, st, K => K .normal st
  | .region ops, _, st, K => execOpsL R ops st fun st' => K .normal st'
  | .draws ops, _, st, K => drawRunL R ops st fun st' tis => when (depsOk 0 (ops.map DOper.deps) && indep (maskTab [] (ops.map DOper.deps)) tis) (K .normal st')
  | .seq a b, β, st, K => execL a β st fun e st' => match e with
    | .normal => execL b β st' K
    | e => K e st'
  | .cond c a b, β, st, K => ev st c fun v => getB v fun t => match t with
    | true => forceS (learnC st c true) fun st => execL a β st K
    | false => forceS (learnC st c false) fun st => execL b β st K
  | .block id c, β, st, K => execL c β st fun e st' => match e with
    | .exit j => bif j == id then K .normal st' else K (.exit j) st'
    | e => K e st'
  | .loop live out c, _, st, K => match loopD pin live out (execL c (AExit × St)) k (canon pin live st) with
    | some r => K r.1 r.2
    | none => none
  | .trim live c, β, st, K => forceS (canon pin live st) fun st => jump w (execL c β st K)
  | .exit id, _, st, K => K (.exit id) st
  | .ret, _, st, K => K .ret st

theorem jump_some {β : Type} {w : Bool} {x : Option β} {r : β} (h : jump w x = some r) : x = some r := by
  cases w with
  | true => exact h
  | false => cases h

theorem loopL_ref {c : ACode} {live out : List Nat} (hc : ∀ {st : St} {K K' : AExit → St → Option (AExit × St)} {r : AExit × St}, (∀ e s, K e s = some r → K' e s = some r) → execL R k w pin c (AExit × St) st K = some r → exec R k pin c (AExit × St) st K' = some r) :
    ∀ (n : Nat) {st : St} {r : AExit × St}, loopD pin live out (execL R k w pin c (AExit × St)) n st = some r → loopD pin live out (exec R k pin c (AExit × St)) n st = some r
  | 0, _, _, h => by cases h
  | n + 1, st, r, h => by
    simp only [loopD] at h ⊢
    refine hc (fun e s hs => ?_) h
    cases e with
    | normal => exact loopL_ref hc n hs
    | exit _ => exact hs
    | ret => exact hs

theorem execL_ref : ∀ (c : ACode) {β : Type} {st : St} {K K' : AExit → St → Option β} {r : β}, (∀ e s, K e s = some r → K' e s = some r) → execL R k w pin c β st K = some r → exec R k pin c β st K' = some r
  | .skip, _, _, _, _, _, hK, h => hK _ _ h
  | .region ops, _, _, _, _, _, hK, h => execOpsL_ref R ops (fun s => hK _ s) h
  | .draws ops, _, _, _, _, _, hK, h => drawRunL_ref R ops (fun s tis hs => by
      obtain ⟨h1, h2⟩ := when_some hs
      rw [h1]; exact hK _ _ h2) h
  | .seq a b, _, _, _, _, _, hK, h => by
    simp only [execL] at h
    simp only [exec]
    refine execL_ref a (fun e s hs => ?_) h
    cases e with
    | normal => exact execL_ref b hK hs
    | exit _ => exact hK _ _ hs
    | ret => exact hK _ _ hs
  | .cond c a b, β, st, K, K', r, hK, h => by
    simp only [execL, forceS_eq] at h
    simp only [exec]
    rw [ev_learn st c (fun s => execL R k w pin a β s K) (fun s => execL R k w pin b β s K)] at h
    cases c with
    | c v =>
      simp only [ev, getB] at h ⊢
      obtain ⟨h1, h2⟩ := when_some h
      rw [h1, when_tr]
      cases hv : v.toBool <;> rw [hv] at h2
      · exact execL_ref b hK h2
      · exact execL_ref a hK h2
    | t n =>
      simp only [ev] at h ⊢
      cases hg : aget n st.env with
      | none => rw [hg] at h; cases h
      | some v =>
        rw [hg] at h
        simp only [getB] at h ⊢
        obtain ⟨h1, h2⟩ := when_some h
        rw [h1, when_tr]
        cases hv : v.toBool <;> rw [hv] at h2
        · exact execL_ref b hK h2
        · exact execL_ref a hK h2
  | .block id c, _, _, _, _, _, hK, h => by
    simp only [execL] at h
    simp only [exec]
    refine execL_ref c (fun e s hs => ?_) h
    cases e with
    | normal => exact hK _ _ hs
    | ret => exact hK _ _ hs
    | exit j =>
      simp only at hs ⊢
      cases hj : j == id <;> rw [hj] at hs
      · exact hK _ _ hs
      · exact hK _ _ hs
  | .loop live out c, β, st, K, K', r, hK, h => by
    simp only [execL] at h
    simp only [exec]
    cases hl : loopD pin live out (execL R k w pin c (AExit × St)) k (canon pin live st) with
    | none => rw [hl] at h; cases h
    | some p =>
      rw [hl] at h
      rw [loopL_ref R k w pin (fun hK h => execL_ref c hK h) k hl]
      exact hK _ _ h
  | .trim live c, _, st, _, _, _, hK, h => by
    simp only [execL] at h
    rw [forceS_eq] at h
    exact execL_ref c hK (jump_some h)
  | .exit _, _, _, _, _, _, hK, h => hK _ _ h
  | .ret, _, _, _, _, _, hK, h => hK _ _ h

/-- What follows a function's code. -/
def kFin (res : List (RV × Mode)) (pins : List Nat) : AExit → St → Option Ans := fun e st => match e with
  | .exit _ => none
  | _ => leaves R st (res.map Prod.fst) fun vs => chills st.heap pins fun h0 => gives h0 (vs.zip (res.map Prod.snd)) fun gs h => fills h gs fun us ks => pinned h pins fun l => when (nodupB (ks ++ pins)) (some (us, l))

def callL (af : AFunc) (ts : List TV) : Option Ans := execL R k w (pinsOf 0 ts) af.body Ans (enters 0 ts) (kFin R af.res (pinsOf 0 ts))

theorem callL_ref {af : AFunc} {ts : List TV} {r : Ans} (h : (ts.length == af.np && Nat.blt af.np 1000) = true) (e : callL R k w af ts = some r) : callF R k af ts = some r := by
  unfold callL at e
  unfold callF
  rw [h]
  refine execL_ref R k w _ _ (fun x s hs => ?_) e
  cases x with
  | exit _ => cases hs
  | normal => exact hs
  | ret => exact hs
end

section
variable {tab : Nat → Option AFunc}
/-- A function's call is told, if its code tells it by what is told of its calls. -/
theorem RR_call {f : Nat} (af : AFunc) {ts : List TV} {r : Ans} (hf : tab f = some af) (hl : (af.prim.isNone && (ts.length == af.np && Nat.blt af.np 1000)) = true) (k : Nat) (h : callL (RR tab) k true af ts = some r) : RR tab f ts = some r :=
  RR_of hf (by rw [Bool.and_eq_true] at hl; exact Option.isNone_iff_eq_none.1 hl.1) k (callL_ref (RR tab) k true (by rw [Bool.and_eq_true] at hl; exact hl.2) h)
end

/-! ### What follows, in words -/
section
variable (R : Orc) (k : Nat) (w : Bool) (pin : List Nat) {β : Type}

/-- What follows a statement in a row. -/
def kSeq (b : ACode) (K : AExit → St → Option β) : AExit → St → Option β := fun e st' => match e with
  | .normal => execL R k w pin b β st' K
  | e => K e st'
/-- What follows a statement in a block. -/
def kBlk (id : Nat) (K : AExit → St → Option β) : AExit → St → Option β := fun e st' => match e with
  | .exit j => bif j == id then K .normal st' else K (.exit j) st'
  | e => K e st'
/-- A loop, so many rounds of it. -/
def loopL (live out : List Nat) (c : ACode) (n : Nat) (st : St) : Option (AExit × St) := loopD pin live out (execL R k w pin c (AExit × St)) n st
/-- What follows a loop's round. -/
def kLoop (live out : List Nat) (c : ACode) (n : Nat) : AExit → St → Option (AExit × St) := fun e st' => match e with
  | .normal => loopL R k w pin live out c n (canon pin live st')
  | e => some (e, canon pin out st')
/-- What follows a loop. -/
def onL (r : Option (AExit × St)) (K : AExit → St → Option β) : Option β := match r with
  | some r => K r.1 r.2
  | none => none
theorem onL_some {e : AExit} {st : St} {K : AExit → St → Option β} : onL (some (e, st)) K = K e st := (rfl)
/-- What follows a call. -/
def onR (a : Option Ans) (K : Ans → Option β) : Option β := match a with
  | none => none
  | some r => K r
theorem onR_some {r : Ans} {K : Ans → Option β} : onR (some r) K = K r := (rfl)
end
end Go.Ab
/- The abstract machine: tables, and small words for the laws. -/
namespace Go.Ab

def fid : Code → Nat
  | .region id _ _ => id
  | .seq a b => (match fid a with | 0 => fid b | n => n)
  | .cond _ a b => (match fid a with | 0 => fid b | n => n)
  | .block _ c => fid c
  | .loop c => fid c
  | _ => 0
def lk : List (Nat × List Nat × List Nat) → Nat → List Nat × List Nat
  | [], _ => ([], [])
  | (m, x) :: r, n => bif m == n then x else lk r n
/-- What is live at the loops' heads, and where a state is trimmed. -/
def livesBy (L T : Nat → List (Nat × List Nat × List Nat)) (f : Nat) : Code → List Nat × List Nat
  | .seq .skip b => lk (T f) (fid b)
  | c => lk (L f) (fid c)

section
variable {β : Type}
@[simp] theorem when_true' (x : Option β) : when true x = x := (rfl)
@[simp] theorem when_false' (x : Option β) : when false x = none := (rfl)
end

theorem wrap64 {n : Int} (h1 : -9223372036854775808 ≤ n) (h2 : n ≤ 9223372036854775807) : IntKind.wrap .i64 n = n := by
  simp only [IntKind.wrap]
  have : IntKind.bits .i64 = 64 := rfl
  have hs : IntKind.signed .i64 = true := rfl
  simp only [this, hs]
  simp
  split <;> omega

@[simp] theorem isInt_int (k : IntKind) (n : Int) : FV.isInt k (.int k n) = true := by simp [FV.isInt]
@[simp] theorem isNum_int (k : IntKind) (n : Int) : FV.isNum (.int k n) = true := (rfl)
@[simp] theorem toInt_int (k : IntKind) (n : Int) : FV.toInt (.int k n) = n := (rfl)
@[simp] theorem isBool_bool (b : Bool) : FV.isBool (.bool b) = true := (rfl)
@[simp] theorem toBool_bool (b : Bool) : FV.toBool (.bool b) = b := (rfl)
@[simp] theorem isStr_str (s : ByteArray) : FV.isStr (.str s) = true := (rfl)
@[simp] theorem toStr_str (s : ByteArray) : FV.toStr (.str s) = s := (rfl)
@[simp] theorem isSl_sl (s : List FV) : FV.isSl (.sl s) = true := (rfl)
@[simp] theorem toSl_sl (s : List FV) : FV.toSl (.sl s) = s := (rfl)
@[simp] theorem toAg_ag (s : List FV) : FV.toAg (.ag s) = s := (rfl)
@[simp] theorem isAg_ag (n : Nat) (s : List FV) : FV.isAg n (.ag s) = (s.length == n) := (rfl)
@[simp] theorem cell_ag (s : List FV) (i : Nat) : FV.cell (.ag s) i = s.getD i .nilp := (rfl)
@[simp] theorem fits_int (k : IntKind) (n : Int) : FV.fits 1 false (.int k n) = true := (rfl)
@[simp] theorem fits_bool (b : Bool) : FV.fits 1 false (.bool b) = true := (rfl)
@[simp] theorem fits_str (s : ByteArray) : FV.fits 1 false (.str s) = true := (rfl)
@[simp] theorem fits_sl (s : List FV) : FV.fits 1 false (.sl s) = true := (rfl)
@[simp] theorem fits_ag (n : Nat) (s : List FV) : FV.fits n true (.ag s) = (s.length == n) := (rfl)
@[simp] theorem toF_fz (v : FV) : TV.toF (.fz v) = v := (rfl)
@[simp] theorem isF_fz (v : FV) : TV.isF (.fz v) = true := (rfl)
@[simp] theorem isF_pv (n : Nat) (agg : Bool) (v : LV) : TV.isF (.pv n agg v) = false := (rfl)
@[simp] theorem isPv_pv (n n' : Nat) (agg agg' : Bool) (e : FV) : TV.isPv n agg (.pv n' agg' (.fz e)) = (n == n' && agg == agg') := (rfl)
@[simp] theorem toV_pv (n : Nat) (agg : Bool) (e : FV) : TV.toV (.pv n agg (.fz e)) = e := (rfl)
@[simp] theorem isEm_em : TV.isEm .em = true := (rfl)
@[simp] theorem isEm_uq (sz : Nat) (agg : Bool) (xs : List FV) : TV.isEm (.uq sz agg xs) = false := (rfl)
@[simp] theorem isUq_uq (sz sz' : Nat) (agg agg' : Bool) (xs : List FV) : TV.isUq sz agg (.uq sz' agg' xs) = (sz == sz' && agg == agg') := (rfl)
@[simp] theorem xs_uq (sz : Nat) (agg : Bool) (xs : List FV) : TV.xs (.uq sz agg xs) = xs := (rfl)
@[simp] theorem lisFz_fz (e : FV) : LV.isFz (.fz e) = true := (rfl)
@[simp] theorem ltoFz_fz (e : FV) : LV.toFz (.fz e) = e := (rfl)
@[simp] theorem isNil_nilp : FV.isNil .nilp = true := (rfl)
@[simp] theorem isNil_pt (n : Nat) (agg : Bool) (e : FV) (off : Nat) : FV.isNil (.pt n agg e off) = false := (rfl)
@[simp] theorem isPt_pt (n : Nat) (agg : Bool) (e : FV) (off : Nat) : FV.isPt (.pt n agg e off) = true := (rfl)
@[simp] theorem fits_pt (n : Nat) (agg : Bool) (e : FV) (off : Nat) : FV.fits 1 false (.pt n agg e off) = true := (rfl)
@[simp] theorem fits_nilp : FV.fits 1 false .nilp = true := (rfl)
@[simp] theorem allF_nil : allF [] [] = true := (rfl)
@[simp] theorem allF_cons (m : Mode) (ms : List Mode) (v : FV) (ts : List TV) : allF (m :: ms) (.fz v :: ts) = allF ms ts := (rfl)

theorem all_fits {α : Type} (f : α → FV) {n : Nat} {agg : Bool} (hf : ∀ x, (f x).fits n agg = true) (l : List α) : (l.map f).all (FV.fits n agg) = true := by
  simp [hf]
@[simp] theorem all_fits_str (l : List ByteArray) : (l.map FV.str).all (FV.fits 1 false) = true := all_fits _ (fun _ => rfl) l
@[simp] theorem all_fits_int (k : IntKind) (l : List Int) : (l.map (FV.int k)).all (FV.fits 1 false) = true := all_fits _ (fun _ => rfl) l
theorem bytes_ext {a b : ByteArray} (h : a.toList = b.toList) : a = b := by
  rw [ByteArray.toList_eq, ByteArray.toList_eq] at h
  obtain ⟨⟨x⟩⟩ := a
  obtain ⟨⟨y⟩⟩ := b
  simp at h
  rw [h]
theorem bytes_beq (a b : ByteArray) : (a.toList == b.toList) = decide (a = b) := by
  by_cases h : a = b
  · subst h; simp
  · have : a.toList ≠ b.toList := fun e => h (bytes_ext e)
    simp [h, this]
end Go.Ab
/- The abstract machine: functions that are told by a contract: what they hand over. -/
namespace Go.Ab
open Go.RowKit
section
variable {P : Program} {W W' : World} {S : Nat → Prop} {f : FuncId}

/-- An answer that is one frozen value. -/
theorem ans_one {ts : List TV} {args : List Value} {e : FV} {v : Value} (hts : ∀ t ∈ ts, ∃ e, t = .fz e) (hl : ts.length = args.length) (hlt : ∀ b, S b → b < W.heap.size) (hb : Below W.heap.size W W') (hr : Rep W' (fun b => S b ∨ (W.heap.size ≤ b ∧ b < W'.heap.size)) e v) : AnsOk W S ts args [] ([.fz e], []) v W' := by
  refine ⟨⟨fun b => S b ∨ (W.heap.size ≤ b ∧ b < W'.heap.size), [v], [], rfl, fun b h => .inl h, fun b h => ?_, fun b h => ?_, ⟨none, [], ⟨rfl, hr⟩, rfl, rfl⟩, (fun c hc => by cases hc), ?_, (fun t x b n agg u hz ht => ?_)⟩, ?_⟩
  · rcases h with h | h
    · exact .inl h
    · exact .inr (.inl h.1)
  · rcases h with h | h
    · exact Nat.lt_of_lt_of_le (hlt b h) hb.size
    · exact h.2
  · clear hr hb hlt
    induction ts generalizing args with
    | nil =>
      cases args with
      | nil => rfl
      | cons x xs => cases hl
    | cons t ts ih =>
      cases args with
      | nil => cases hl
      | cons x xs =>
        obtain ⟨e, rfl⟩ := hts t (List.mem_cons_self ..)
        exact ih (fun t ht => hts t (List.mem_cons_of_mem _ ht)) (by simpa using hl)
  · subst ht
    obtain ⟨e, he⟩ := hts _ (List.of_mem_zip hz).1
    cases he
  · exact ⟨hb.os, hb.tape, hb.output, hb.size, fun b h _ => hb.block b h⟩

end
end Go.Ab
/- The abstract machine: texts looked through, joined, repeated: by contracts. -/
namespace Go.Ab
open Go.RowKit
section
variable {P : Program} {f : FuncId}
theorem repTs_two {W : World} {S : Nat → Prop} {e e' : FV} {args : Array Value} {Bs : List Nat} (h : RepTs W S [.fz e, .fz e'] args.toList Bs) : ∃ x y, args = #[x, y] ∧ Bs = [] ∧ Rep W S e x ∧ Rep W S e' y := by
  obtain ⟨al⟩ := args
  match al, h with
  | [x, y], h =>
    obtain ⟨B, Bs', ⟨rfl, R⟩, ⟨B2, Bs2, ⟨rfl, R2⟩, h3, hB2⟩, hB⟩ := h
    simp only [RepTs] at h3
    subst h3
    refine ⟨x, y, rfl, ?_, R, R2⟩
    simp only at hB hB2
    rw [hB, hB2]
  | [], h => exact h.elim
  | [x], h => obtain ⟨B, Bs', _, h2, _⟩ := h; exact h2.elim
  | x :: y :: z :: l, h => obtain ⟨B, Bs', _, ⟨B2, Bs2, _, h3, _⟩, _⟩ := h; exact h3.elim
/-- Two frozen arguments, one frozen answer. -/
theorem callOK_two {e e' r : FV} (h : ∀ (W : World) (S : Nat → Prop) (x y : Value), (∀ b, S b → b < W.heap.size) → Rep W S e x → Rep W S e' y → Calls P f #[x, y] W fun ex W' => ∃ v, ex = .returned v ∧ Below W.heap.size W W' ∧ Rep W' (fun b => S b ∨ (W.heap.size ≤ b ∧ b < W'.heap.size)) r v) : CallOK P f [.fz e, .fz e'] ([.fz r], []) := by
  intro W S args Bs hlt hglob hRT
  obtain ⟨x, y, rfl, rfl, R, R2⟩ := repTs_two hRT
  refine (h W S x y hlt R R2).mono ?_
  rintro ex W' ⟨v, rfl, hb, hr⟩
  exact ans_one (fun t ht => by
    rcases List.mem_cons.1 ht with rfl | ht
    · exact ⟨_, rfl⟩
    · exact ⟨_, List.mem_singleton.1 ht⟩) rfl hlt hb hr
/-- Where one byte stands first. -/
def indexP (ts : List TV) : Option Ans := match ts with
  | [.fz (.str s), .fz (.str c)] => (match c.data.toList with
    | [b] => some ([.fz (.int .i64 (Lib.indexByte s.data.toList b))], [])
    | _ => none)
  | _ => none
theorem indexP_ok (h : ∀ (s : ByteArray) (c : UInt8) (w : World), Calls P f #[.string s, .string ⟨#[c]⟩] w fun e w' => e = .returned (.int .i64 (Lib.indexByte s.data.toList c)) ∧ w' = w) : ∀ ts r, indexP ts = some r → CallOK P f ts r := by
  intro ts r e
  unfold indexP at e
  split at e
  · rename_i s c
    split at e
    · rename_i b hb
      cases e
      have hc : c = ⟨#[b]⟩ := by
        obtain ⟨⟨l⟩⟩ := c
        simp only at hb
        rw [hb]
      subst hc
      refine callOK_two fun W S x y hlt R R2 => ?_
      cases R; cases R2
      refine (h s b W).mono ?_
      rintro ex W' ⟨rfl, rfl⟩
      exact ⟨_, rfl, Below.refl _ _, .int _ _⟩
    · cases e
  · cases e
/-- Texts in one row. -/
def joinP (ts : List TV) : Option Ans := match ts with
  | [.fz (.sl es), .fz (.str sep)] => when (es.all FV.isStr && Nat.ble (Lib.join (es.map fun e => e.toStr.data.toList) sep.data.toList).length 140737488355328 && Nat.ble es.length 140737488355328) (some ([.fz (.str ⟨(Lib.join (es.map fun e => e.toStr.data.toList) sep.data.toList).toArray⟩)], []))
  | _ => none
theorem joinP_ok (h0 : ∀ (a : Option Addr) (c : Nat) (sep : ByteArray) (w : World), Calls P f #[.slice a 0 c, .string sep] w fun e w' => e = .returned (.string ⟨#[]⟩) ∧ w' = w)
    (h : ∀ (bk o c : Nat) (xs : List ByteArray) (sep : ByteArray) (w : World) (hcells : ∀ (j : Nat) x, xs[j]? = some x → w.cell? ⟨bk, o + j, none⟩ = some (.string x)) (hbk : bk < w.heap.size) (hN : xs.length ≤ 140737488355328) (hcap : xs.length ≤ c) (hlen : (Lib.join (xs.map (·.data.toList)) sep.data.toList).length ≤ 140737488355328),
      Calls P f #[.slice (some ⟨bk, o, none⟩) xs.length c, .string sep] w fun e w' => e = .returned (.string ⟨(Lib.join (xs.map (·.data.toList)) sep.data.toList).toArray⟩) ∧ Below w.heap.size w w') : ∀ ts r, joinP ts = some r → CallOK P f ts r := by
  intro ts r e
  unfold joinP at e
  split at e
  · rename_i es sep
    obtain ⟨hg, e⟩ := when_some e
    cases e
    simp only [Bool.and_eq_true] at hg
    have hlen := Nat.le_of_ble_eq_true hg.1.2
    have hN := Nat.le_of_ble_eq_true hg.2
    refine callOK_two fun W S x y hlt R R2 => ?_
    cases R2
    cases R with
    | sl0 a cap =>
      refine (h0 a cap sep W).mono ?_
      rintro ex W' ⟨rfl, rfl⟩
      exact ⟨_, rfl, Below.refl _ _, .str _⟩
    | sl _ B off cap sz agg g hS hcap hf hc hc1 hh =>
      have hcl : ∀ (j : Nat) x, (es.map FV.toStr)[j]? = some x → W.cell? ⟨B, off + j, none⟩ = some (.string x) := fun j x hx => by
        rw [List.getElem?_map] at hx
        obtain ⟨y, hy, rfl⟩ := Option.map_eq_some_iff.1 hx
        have hj : j < es.length := (List.getElem?_eq_some_iff.1 hy).1
        obtain ⟨s, hs⟩ : ∃ s, y = .str s := by
          have := List.all_eq_true.1 hg.1.1 y (List.mem_of_getElem? hy)
          cases y <;> simp only [FV.isStr] at this <;> first | (cases this; done) | exact ⟨_, rfl⟩
        subst hs
        have hfit := hf _ (List.mem_of_getElem? hy)
        obtain ⟨rfl, rfl⟩ : sz = 1 ∧ agg = false := by
          cases agg <;> simp [FV.fits, FV.isAg] at hfit ⊢
          exact hfit
        have hR := hh j _ 0 (.str s) hy rfl
        have hcc := hc j (by omega)
        rw [Nat.mul_one, Nat.add_zero] at hR
        rw [hcc]
        generalize g j = u at hR
        cases hR
        rfl
      have em : (es.map FV.toStr).map (fun x => x.data.toList) = es.map fun e => e.toStr.data.toList := by rw [List.map_map]; rfl
      have hx := h B off cap (es.map FV.toStr) sep W hcl (hlt B hS) (by simpa using hN) (by simpa using hcap) (by rw [em]; exact hlen)
      rw [List.length_map, em] at hx
      refine hx.mono ?_
      rintro ex W' ⟨rfl, hb⟩
      exact ⟨_, rfl, hb, .str _⟩
  · cases e
end
end Go.Ab
/- The abstract machine: a part of a table; what a told call does, for a proof by hand; a Builder that nobody touches. -/
namespace Go.Ab
noncomputable section
open Go.RowKit
section
variable {tab tab' : Nat → Option AFunc}
end
section
variable {P : Program} {modes : Nat → List Mode × List Mode} {lives : Nat → Code → List Nat × List Nat} {tab : Nat → Option AFunc} {W : World}
end
section
variable {P : Program} {W W' : World} {S : Nat → Prop} {f : FuncId}
end
section
variable {P : Program} {f : FuncId}
/-- Where a text stands first in another one. -/
def indexQ (ts : List TV) : Option Ans := match ts with
  | [.fz (.str s), .fz (.str c)] => (match c.data.toList with
    | [b] => some ([.fz (.int .i64 (Lib.indexByte s.data.toList b))], [])
    | sub => when (Nat.blt s.size 4294967281) (some ([.fz (.int .i64 (Lib.index s.data.toList sub))], [])))
  | _ => none
theorem indexQ_ok {g : Nat} (hg : P.globals.findIdx? (·.name == "internal/bytealg.MaxLen") = some g) (h1 : ∀ (s : ByteArray) (c : UInt8) (w : World), Calls P f #[.string s, .string ⟨#[c]⟩] w fun e w' => e = .returned (.int .i64 (Lib.indexByte s.data.toList c)) ∧ w' = w)
    (h : ∀ (s sub : ByteArray) (m : Int) (w : World), s.size < 4294967281 → w.cell? ⟨g, 0, none⟩ = some (.int .i64 m) → Calls P f #[.string s, .string sub] w fun e w' => e = .returned (.int .i64 (Lib.index s.data.toList sub.data.toList)) ∧ w' = w) : ∀ ts r, indexQ ts = some r → CallOK P f ts r := by
  intro ts r e
  unfold indexQ at e
  split at e
  · rename_i s c
    split at e
    · rename_i b hb
      exact indexP_ok h1 _ _ (by unfold indexP; simp only [hb]; exact e)
    · obtain ⟨hs, e⟩ := when_some e
      cases e
      intro W S args Bs hlt hG hRT
      obtain ⟨x, y, rfl, rfl, R, R2⟩ := repTs_two hRT
      cases R; cases R2
      obtain ⟨_, m, hm⟩ := hG g hg
      refine (h s c m W (Nat.le_of_ble_eq_true hs) hm).mono ?_
      rintro ex W' ⟨rfl, rfl⟩
      exact ans_one (fun t ht => by
        rcases List.mem_cons.1 ht with rfl | ht
        · exact ⟨_, rfl⟩
        · exact ⟨_, List.mem_singleton.1 ht⟩) rfl hlt (Below.refl _ _) (.int _ _)
  · cases e
end
end
end Go.Ab
/- A strings.Builder that is a field of a struct: what its methods do. Over any program and numbering that bear them (as the library's own contracts). -/
set_option linter.unusedVariables false
namespace Go.Ab
open Go.Proofs Go.Shelf Go.RowKit
variable {P : Program} {ρ : Ren}

/-- The cells but for the Builder's own two are as they were. -/
def SameBut (o : Nat) (cs cs' : Array Value) : Prop := cs'.size = cs.size ∧ ∀ j, j ≠ o → j ≠ o + 1 → cs'[j]? = cs[j]?
theorem SameBut.refl (o : Nat) (cs : Array Value) : SameBut o cs cs := ⟨rfl, fun _ _ _ => rfl⟩
theorem SameBut.trans {o : Nat} {a b c : Array Value} (h : SameBut o a b) (k : SameBut o b c) : SameBut o a c := ⟨k.1.trans h.1, fun j h1 h2 => (k.2 j h1 h2).trans (h.2 j h1 h2)⟩
theorem SameBut.set (o : Nat) (cs : Array Value) (i : Nat) (x : Value) (h : i = o ∨ i = o + 1) : SameBut o cs (cs.setIfInBounds i x) :=
  ⟨by simp, fun j h1 h2 => by rw [Array.getElem?_setIfInBounds_ne (by rcases h with rfl | rfl <;> omega)]⟩
end Go.Ab
