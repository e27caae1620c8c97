/- What an argument is read as: numbers, truths, texts, arrays of them, structs. -/
import Derived.Test.YtdpfpdejipkffaaT
namespace Go.Ab
set_option linter.unusedSectionVars false
set_option linter.unusedVariables false
set_option linter.unusedSimpArgs false

theorem choose_list {α β : Type} {f : α → β} {p : α → Prop} : ∀ {l : List β}, (∀ x ∈ l, ∃ a, x = f a ∧ p a) → ∃ m : List α, l = m.map f ∧ ∀ a ∈ m, p a
  | [], _ => ⟨[], rfl, fun _ h => by cases h⟩
  | x :: l, h => by
    obtain ⟨a, rfl, ha⟩ := h x (List.mem_cons_self ..)
    obtain ⟨m, rfl, hm⟩ := choose_list (l := l) fun y hy => h y (List.mem_cons_of_mem _ hy)
    exact ⟨a :: m, rfl, fun b hb => by rcases List.mem_cons.1 hb with rfl | hb; exact ha; exact hm b hb⟩

section
variable {P : Program} {D B : Nat}

theorem wc_int {k : IntKind} {f : FV} (h : WC P D B (.int k) f) : ∃ n, f = .int k n ∧ (Lit.int k n).wf = true := by
  cases h; exact ⟨_, rfl, by assumption⟩
theorem wc_str {f : FV} (h : WC P D B .str f) : ∃ s, f = .str s ∧ s.size ≤ B := by
  cases h; exact ⟨_, rfl, by assumption⟩
theorem wc_bool {f : FV} (h : WC P D B .bool f) : ∃ s, f = .bool s := by
  cases h; exact ⟨_, rfl⟩

theorem wc_strs {ts : Nat} (hfs : flat P D ts = [.str]) (hss : szOf P ts = some (1, false)) {f : FV} (h : WC P D B (.sl ts) f) : ∃ l : List ByteArray, f = .sl (l.map .str) ∧ (∀ s ∈ l, s.size ≤ B) ∧ l.length * P.bytesOf ts ≤ B := by
  cases h with
  | sl _ es hl hb hf h =>
    obtain ⟨m, rfl, hm⟩ := choose_list (f := FV.str) (p := fun s => s.size ≤ B) (l := es) fun x hx => by
      obtain ⟨n, agg, hs, hfit⟩ := hf x hx
      rw [hss] at hs; cases hs
      have hc := (fits_one hfit).2.2
      exact wc_str (h x hx 0 x .str (by rw [hc]; rfl) (by rw [hfs]; rfl))
    exact ⟨m, rfl, hm, by simpa using hb⟩

theorem wc_ints {ts : Nat} {k : IntKind} (hfs : flat P D ts = [.int k]) (hss : szOf P ts = some (1, false)) {f : FV} (h : WC P D B (.sl ts) f) : ∃ l : List Int, f = .sl (l.map (.int k)) ∧ (∀ s ∈ l, (Lit.int k s).wf = true) ∧ l.length * P.bytesOf ts ≤ B := by
  cases h with
  | sl _ es hl hb hf h =>
    obtain ⟨m, rfl, hm⟩ := choose_list (f := FV.int k) (p := fun s => (Lit.int k s).wf = true) (l := es) fun x hx => by
      obtain ⟨n, agg, hs, hfit⟩ := hf x hx
      rw [hss] at hs; cases hs
      have hc := (fits_one hfit).2.2
      exact wc_int (h x hx 0 x (.int k) (by rw [hc]; rfl) (by rw [hfs]; rfl))
    exact ⟨m, rfl, hm, by simpa using hb⟩

theorem len6 {α : Type} {l : List α} (h : l.length = 6) : ∃ a b c d e f, l = [a, b, c, d, e, f] := by
  match l, h with
  | [a, b, c, d, e, f], _ => exact ⟨a, b, c, d, e, f, rfl⟩
theorem len2 {α : Type} {l : List α} (h : l.length = 2) : ∃ a b, l = [a, b] := by
  match l, h with
  | [a, b], _ => exact ⟨a, b, rfl⟩
theorem len3 {α : Type} {l : List α} (h : l.length = 3) : ∃ a b c, l = [a, b, c] := by
  match l, h with
  | [a, b, c], _ => exact ⟨a, b, c, rfl⟩

theorem str2_of {t : Nat} (hft : flat P D t = [.str, .str]) (hst : szOf P t = some (2, true)) {f : FV} (h : WV P D B t f) : ∃ a b : ByteArray, f = .ag [.str a, .str b] ∧ a.size ≤ B ∧ b.size ≤ B := by
  obtain ⟨⟨n, agg, hs, hfit⟩, H⟩ := h
  rw [hst] at hs; cases hs
  obtain ⟨cs, rfl, hcs⟩ := fits_agg hfit
  obtain ⟨c0, c1, rfl⟩ := len2 hcs
  simp only [FV.cells, hft] at H
  obtain ⟨a, rfl, ha⟩ := wc_str (H 0 c0 _ rfl rfl)
  obtain ⟨b, rfl, hb⟩ := wc_str (H 1 c1 _ rfl rfl)
  exact ⟨a, b, rfl, ha, hb⟩

theorem strs_of {t ts : Nat} (hft : flat P D t = [.sl ts]) (hst : szOf P t = some (1, false)) (hfs : flat P D ts = [.str]) (hss : szOf P ts = some (1, false)) {f : FV} (h : WV P D B t f) : ∃ l : List ByteArray, f = .sl (l.map .str) ∧ (∀ s ∈ l, s.size ≤ B) ∧ l.length * P.bytesOf ts ≤ B := by
  obtain ⟨⟨n, agg, hs, hfit⟩, H⟩ := h
  rw [hst] at hs; cases hs
  have hc := (fits_one hfit).2.2
  exact wc_strs hfs hss (H 0 f (.sl ts) (by rw [hc]; rfl) (by rw [hft]; rfl))
theorem str_of {t : Nat} (hft : flat P D t = [.str]) (hst : szOf P t = some (1, false)) {f : FV} (h : WV P D B t f) : ∃ a : ByteArray, f = .str a ∧ a.size ≤ B := by
  obtain ⟨⟨n, agg, hs, hfit⟩, H⟩ := h
  rw [hst] at hs; cases hs
  have hc := (fits_one hfit).2.2
  exact wc_str (H 0 f .str (by rw [hc]; rfl) (by rw [hft]; rfl))
theorem int_of {t : Nat} {k : IntKind} (hft : flat P D t = [.int k]) (hst : szOf P t = some (1, false)) {f : FV} (h : WV P D B t f) : ∃ a : Int, f = .int k a ∧ (Lit.int k a).wf = true := by
  obtain ⟨⟨n, agg, hs, hfit⟩, H⟩ := h
  rw [hst] at hs; cases hs
  have hc := (fits_one hfit).2.2
  exact wc_int (H 0 f (.int k) (by rw [hc]; rfl) (by rw [hft]; rfl))
theorem bool_of {t : Nat} (hft : flat P D t = [.bool]) (hst : szOf P t = some (1, false)) {f : FV} (h : WV P D B t f) : ∃ a : Bool, f = .bool a := by
  obtain ⟨⟨n, agg, hs, hfit⟩, H⟩ := h
  rw [hst] at hs; cases hs
  have hc := (fits_one hfit).2.2
  exact wc_bool (H 0 f .bool (by rw [hc]; rfl) (by rw [hft]; rfl))
/-- A struct's cells. -/
theorem cells_of {t n : Nat} (hst : szOf P t = some (n, true)) {f : FV} (h : WV P D B t f) : ∃ cs, f = .ag cs ∧ cs.length = n ∧ ∀ (j : Nat) (x : FV) (c : CT), cs[j]? = some x → (flat P D t)[j]? = some c → WC P D B c x := by
  obtain ⟨⟨m, agg, hs, hfit⟩, H⟩ := h
  rw [hst] at hs; cases hs
  obtain ⟨cs, rfl, hcs⟩ := fits_agg hfit
  exact ⟨cs, rfl, hcs, fun j x c => H j x c⟩
/-- A slice of what is told. -/
theorem sl_of {t : Nat} {α : Type} (enc : α → FV) (p : α → Prop) (hh : ∀ f, WV P D B t f → ∃ a, f = enc a ∧ p a) {f : FV} (h : WC P D B (.sl t) f) : ∃ l : List α, f = .sl (l.map enc) ∧ (∀ a ∈ l, p a) ∧ l.length * P.bytesOf t ≤ B := by
  cases h with
  | sl _ es hl hb hf h =>
    obtain ⟨m, rfl, hm⟩ := choose_list (f := enc) (p := p) (l := es) fun x hx => hh x ⟨hf x hx, fun j y c => h x hx j y c⟩
    exact ⟨m, rfl, hm, by simpa using hb⟩
/-- An argument that is a slice. -/
theorem slA_of {t e : Nat} (hft : flat P D t = [.sl e]) (hst : szOf P t = some (1, false)) {f : FV} (h : WV P D B t f) : WC P D B (.sl e) f := by
  obtain ⟨⟨n, agg, hs, hfit⟩, H⟩ := h
  rw [hst] at hs; cases hs
  have hc := (fits_one hfit).2.2
  exact H 0 f (.sl e) (by rw [hc]; rfl) (by rw [hft]; rfl)
theorem int2_of {t : Nat} (hft : flat P D t = [.int .i64, .int .i64]) (hst : szOf P t = some (2, true)) {f : FV} (h : WV P D B t f) : ∃ a b : Int, f = .ag [.int .i64 a, .int .i64 b] ∧ (Lit.int .i64 a).wf = true ∧ (Lit.int .i64 b).wf = true := by
  obtain ⟨cs, rfl, hl, H⟩ := cells_of hst h
  obtain ⟨a, b, rfl⟩ := len2 hl
  rw [hft] at H
  obtain ⟨a, rfl, ha⟩ := wc_int (H 0 a _ rfl rfl)
  obtain ⟨b, rfl, hb⟩ := wc_int (H 1 b _ rfl rfl)
  exact ⟨a, b, rfl, ha, hb⟩
theorem int3_of {t : Nat} (hft : flat P D t = [.int .i64, .int .i64, .int .i64]) (hst : szOf P t = some (3, true)) {f : FV} (h : WV P D B t f) : ∃ a b c : Int, f = .ag [.int .i64 a, .int .i64 b, .int .i64 c] ∧ (Lit.int .i64 a).wf = true ∧ (Lit.int .i64 b).wf = true ∧ (Lit.int .i64 c).wf = true := by
  obtain ⟨cs, rfl, hl, H⟩ := cells_of hst h
  obtain ⟨a, b, c, rfl⟩ := len3 hl
  rw [hft] at H
  obtain ⟨a, rfl, ha⟩ := wc_int (H 0 a _ rfl rfl)
  obtain ⟨b, rfl, hb⟩ := wc_int (H 1 b _ rfl rfl)
  obtain ⟨c, rfl, hc⟩ := wc_int (H 2 c _ rfl rfl)
  exact ⟨a, b, c, rfl, ha, hb, hc⟩
theorem wf64 {m : Int} (h : (Lit.int .i64 m).wf = true) : -9223372036854775808 ≤ m ∧ m ≤ 9223372036854775807 := by
  have h1 : decide (IntKind.i64.min ≤ m ∧ m ≤ IntKind.i64.max) = true := by simpa [Lit.wf] using h
  exact of_decide_eq_true h1
end
end Go.Ab
