/- What an argument is read as: numbers, truths, texts, arrays of them, structs. -/
import Derived.Test.YtdpfpdejipkffaaT
namespace Go.Ab
set_option linter.unusedSectionVars false
set_option linter.unusedVariables false
set_option linter.unusedSimpArgs false

theorem choose_list {α β : Type} {f : α → β} {p : α → Prop} : ∀ {l : List β}, (∀ x ∈ l, ∃ a, x = f a ∧ p a) → ∃ m : List α, l = m.map f ∧ ∀ a ∈ m, p a
  | [], _ => ⟨[], rfl, fun _ h => by cases h⟩
  | x :: l, h => by
    obtain ⟨a, rfl, ha⟩ := h x (List.mem_cons_self ..)
    obtain ⟨m, rfl, hm⟩ := choose_list (l := l) fun y hy => h y (List.mem_cons_of_mem _ hy)
    exact ⟨a :: m, rfl, fun b hb => by rcases List.mem_cons.1 hb with rfl | hb; exact ha; exact hm b hb⟩

section
variable {P : Program} {D B : Nat}

theorem wc_int {k : IntKind} {f : FV} (h : WC P D B (.int k) f) : ∃ n, f = .int k n ∧ (Lit.int k n).wf = true := by
  cases h; exact ⟨_, rfl, by assumption⟩
theorem wc_str {f : FV} (h : WC P D B .str f) : ∃ s, f = .str s ∧ s.size ≤ B := by
  cases h; exact ⟨_, rfl, by assumption⟩
theorem wc_strs {ts : Nat} (hfs : flat P D ts = [.str]) (hss : szOf P ts = some (1, false)) {f : FV} (h : WC P D B (.sl ts) f) : ∃ l : List ByteArray, f = .sl (l.map .str) ∧ (∀ s ∈ l, s.size ≤ B) ∧ l.length * P.bytesOf ts ≤ B := by
  cases h with
  | sl _ es hl hb hf h =>
    obtain ⟨m, rfl, hm⟩ := choose_list (f := FV.str) (p := fun s => s.size ≤ B) (l := es) fun x hx => by
      obtain ⟨n, agg, hs, hfit⟩ := hf x hx
      rw [hss] at hs; cases hs
      have hc := (fits_one hfit).2.2
      exact wc_str (h x hx 0 x .str (by rw [hc]; rfl) (by rw [hfs]; rfl))
    exact ⟨m, rfl, hm, by simpa using hb⟩

theorem int_of {t : Nat} {k : IntKind} (hft : flat P D t = [.int k]) (hst : szOf P t = some (1, false)) {f : FV} (h : WV P D B t f) : ∃ a : Int, f = .int k a ∧ (Lit.int k a).wf = true := by
  obtain ⟨⟨n, agg, hs, hfit⟩, H⟩ := h
  rw [hst] at hs; cases hs
  have hc := (fits_one hfit).2.2
  exact wc_int (H 0 f (.int k) (by rw [hc]; rfl) (by rw [hft]; rfl))
end
end Go.Ab
