-- Own text of the session: a reading of an argument (DataW) as a value of a kind (Kd). Lean checks it.
import Derived.Carry
import Derived.ChangeArms
import Derived.OpenShut
import Derived.SizedLaws
import Derived.WideShapes
import Derived.Deep.Slices
import Derived.Test.YteeodnnabogheaaWShare
import Derived.Test.YteeodnnabogheaaWMore
namespace Go.Proofs.YteeodnnabogheaaY
open Go.RowKit Go.Proofs.YteeodnnabogheaaW.PrintWords Go.Proofs.YteeodnnabogheaaW.PrintLast Go.Proofs.YteeodnnabogheaaW.PrintMore
set_option linter.unusedVariables false
set_option linter.unusedSimpArgs false

/-- Whatever reads at type t reads as a value of the kind d, and it is Ok. -/
def Rd (P : Program) {α : Type} (d : Kd α) (t : TypeId) (Ok : α → Prop) (fuel : Nat) : Prop :=
  ∀ {H : Type} (enc : TypeId × Value → H) (w : World) (cs : List Value) (x : DataW H × List MemPlace),
    DataW.trod enc P w 0 (fun _ => true) true fuel t cs = some x → (∀ n ∈ x.1.weights P t, n ≤ reachBytes) → ∃ a, d.K w a cs ∧ Ok a

theorem weightsAll_mem {H : Type} {P : Program} {t : TypeId} : ∀ {l : List (DataW H)} {d : DataW H}, d ∈ l → ∀ n ∈ d.weights P t, n ∈ DataW.weightsAll P t l
  | a :: l, d, h, n, hn => by
    rcases List.mem_cons.1 h with rfl | h
    · exact List.mem_append_left _ hn
    · exact List.mem_append_right _ (weightsAll_mem h n hn)

theorem rd_zero {P : Program} {α : Type} {d : Kd α} {t : TypeId} {Ok : α → Prop} : Rd P d t Ok 0 := by
  intro H enc w cs x h
  simp [DataW.trod] at h
theorem rd_int {P : Program} {t : TypeId} {k : IntKind} (hu : P.underlying t = some (.int k)) (fuel : Nat) : Rd P (Kd.int k) t (fun x => (Lit.int k x).wf = true) fuel := by
  intro H enc w cs x h hw
  cases fuel with
  | zero => simp [DataW.trod] at h
  | succ n =>
    rw [DataW.trod_step] at h
    unfold DataW.trodStep at h
    simp only [hu] at h
    split at h <;> first | contradiction | skip
    all_goals simp_all
    obtain ⟨⟨rfl, h1⟩, h2⟩ := h
    exact ⟨_, rfl, h1⟩
theorem rd_bool {P : Program} {t : TypeId} (hu : P.underlying t = some .bool) (fuel : Nat) : Rd P Kd.bool t (fun _ => True) fuel := by
  intro H enc w cs x h hw
  cases fuel with
  | zero => simp [DataW.trod] at h
  | succ n =>
    rw [DataW.trod_step] at h
    unfold DataW.trodStep at h
    simp only [hu] at h
    split at h <;> first | contradiction | skip
    all_goals first | exact ⟨_, rfl, trivial⟩ | (exfalso; simp_all; done)
theorem rd_string {P : Program} {t : TypeId} (hu : P.underlying t = some .string) (fuel : Nat) : Rd P Kd.string t (fun s => s.size ≤ 140737488351232) fuel := by
  intro H enc w cs x h hw
  cases fuel with
  | zero => simp [DataW.trod] at h
  | succ n =>
    rw [DataW.trod_step] at h
    unfold DataW.trodStep at h
    simp only [hu] at h
    split at h <;> first | contradiction | skip
    all_goals simp_all
    obtain ⟨h1, rfl⟩ := h
    refine ⟨_, rfl, ?_⟩
    have := hw _ (by simp [DataW.weights]; rfl)
    exact this
/-- A slice: its elements by their own readings, of less fuel. -/
theorem rd_slice {P : Program} {α : Type} {d : Kd α} {t e : TypeId} {Ok : α → Prop} {B : Nat} (hu : P.underlying t = some (.slice e)) (hc : P.cellsOf e = d.sz) (hB : P.bytesOf e = B) (fuel : Nat)
    (he : ∀ n, n < fuel → Rd P d e Ok n) : Rd P (Kd.slice e d) t (fun l => l.length ≤ maxLen ∧ l.length * B ≤ 140737488351232 ∧ ∀ y ∈ l, Ok y) fuel := by
  intro H enc w cs x h hw
  rcases DataW.trod_slice hu h with ⟨rfl, rfl⟩ | ⟨a, len, cap, elems, rest, n, rfl, rfl, rfl, _, hl, hm, hlen, hel, _, _⟩
  · exact ⟨[], ⟨none, 0, rfl, Nat.le_refl _, rfl, Nat.zero_le _, fun h => absurd h (Nat.lt_irrefl _)⟩, by simp, by simp, by simp⟩
  · have hw1 : ∀ z ∈ elems, ∀ k ∈ z.1.weights P e, k ≤ reachBytes := by
      intro z hz k hk
      refine hw k ?_
      simp only [DataW.weights, hu]
      exact List.mem_cons_of_mem _ (List.mem_append_left _ (weightsAll_mem (List.mem_map_of_mem (f := (·.1)) hz) k hk))
    have hx : ∀ i, i < len → ∃ y : α × List Value, w.cells? 0 (a.add (i * P.cellsOf e)) (P.cellsOf e) = some y.2 ∧ d.K w y.1 y.2 ∧ Ok y.1 := by
      intro i hi
      have h1 := hel i hi
      rw [List.getElem?_eq_getElem (by omega)] at h1
      obtain ⟨cs', h2, h3⟩ := Option.bind_eq_some_iff.1 h1
      obtain ⟨y, hy, hok⟩ := he n (Nat.lt_succ_self n) enc w cs' _ h3 (hw1 _ (List.getElem_mem _))
      exact ⟨(y, cs'), h2, hy, hok⟩
    have hx2 : ∃ f : (i : Nat) → i < len → α × List Value, ∀ i (hi : i < len), w.cells? 0 (a.add (i * P.cellsOf e)) (P.cellsOf e) = some (f i hi).2 ∧ d.K w (f i hi).1 (f i hi).2 ∧ Ok (f i hi).1 :=
      ⟨fun i hi => Classical.choose (hx i hi), fun i hi => Classical.choose_spec (hx i hi)⟩
    obtain ⟨f, hf⟩ := hx2
    let l : List α := List.ofFn (fun i : Fin len => (f i.1 i.2).1)
    have ll : l.length = len := List.length_ofFn
    have hlen2 : len * B ≤ 140737488351232 := by
      have := hw ((elems.length + rest.length) * B) (by simp [DataW.weights, hu, hB])
      rw [hlen] at this
      exact Nat.le_trans (Nat.mul_le_mul_right _ (Nat.le_add_right _ _)) this
    refine ⟨l, ⟨some a, cap, by rw [ll], by rw [ll]; exact hl, rfl, ?_, ?_⟩, by rw [ll]; omega, by rw [ll]; exact hlen2, ?_⟩
    · rw [ll]; exact Nat.le_trans hl (Nat.le_trans hm (by decide))
    · intro _
      refine ⟨a, rfl, fun j p hp => ?_⟩
      obtain ⟨hj, rfl⟩ := List.getElem?_eq_some_iff.1 hp
      rw [ll] at hj
      obtain ⟨h1, h2, h3⟩ := hf j hj
      refine ⟨(f j hj).2, d.K_len h2, ?_, fun i u hu => ?_⟩
      · show d.K w l[j] _
        simp only [l, List.getElem_ofFn]
        exact h2
      · obtain ⟨_, hlen3, hcell⟩ := World.cells?_some h1
        obtain ⟨hi, _⟩ := List.getElem?_eq_some_iff.1 hu
        have := hcell i (by omega)
        rw [hc, hu] at this
        rw [← Deep.add_add]
        exact this
    · intro y hy
      obtain ⟨i, hi⟩ := List.mem_ofFn.1 hy
      rw [← hi]
      exact (hf i.1 i.2).2.2

theorem okWide_array {P : Program} {w : World} {r : Reach} {base : Nat} {t : TypeId} {v : Value} {n : Nat} {e : TypeId} (ht : P.underlying t = some (.array n e)) (h : Value.okWide P w r base t v) : ∃ cs, v = .agg cs ∧ cs.size = P.cellsOf t := by
  simp only [Value.okWide, ht] at h
  obtain ⟨cs, h1, h2, _⟩ := h
  exact ⟨cs, h1, h2⟩
end Go.Proofs.YteeodnnabogheaaY
