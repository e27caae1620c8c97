/- What an argument is read as: values of documents, texts, arrays of them. -/
import Derived.Test.YtjkdheebgmnpmaaSJval0
namespace Go.Ab
set_option linter.unusedSectionVars false
set_option linter.unusedVariables false
set_option linter.unusedSimpArgs false

inductive JV.Ok (B : Nat) : JV → Prop where
  | mk {k c s : Int} {t : ByteArray} {is : List JV} {ks : List ByteArray} (wk : (Lit.int .i64 k).wf = true) (wc : (Lit.int .i64 c).wf = true) (ws : (Lit.int .i64 s).wf = true) (ht : t.size ≤ B)
      (hi : is.length * 88 ≤ B) (hk : ks.length * 16 ≤ B) (hs : ∀ s ∈ ks, s.size ≤ B) (h : ∀ v ∈ is, JV.Ok B v) : JV.Ok B (.mk k c s t is ks)

theorem JV.Ok.sm {B : Nat} {v : JV} (hB : B ≤ 140737488351232) (h : JV.Ok B v) : v.Sm := by
  induction h with
  | mk _ _ _ _ hi hk _ _ ih => exact .mk (by omega) (by omega) ih

theorem choose_list {α β : Type} {f : α → β} {p : α → Prop} : ∀ {l : List β}, (∀ x ∈ l, ∃ a, x = f a ∧ p a) → ∃ m : List α, l = m.map f ∧ ∀ a ∈ m, p a
  | [], _ => ⟨[], rfl, fun _ h => by cases h⟩
  | x :: l, h => by
    obtain ⟨a, rfl, ha⟩ := h x (List.mem_cons_self ..)
    obtain ⟨m, rfl, hm⟩ := choose_list (l := l) fun y hy => h y (List.mem_cons_of_mem _ hy)
    exact ⟨a :: m, rfl, fun b hb => by rcases List.mem_cons.1 hb with rfl | hb; exact ha; exact hm b hb⟩

section
variable {P : Program} {D B : Nat}

theorem wc_int {k : IntKind} {f : FV} (h : WC P D B (.int k) f) : ∃ n, f = .int k n ∧ (Lit.int k n).wf = true := by
  cases h; exact ⟨_, rfl, by assumption⟩
theorem wc_str {f : FV} (h : WC P D B .str f) : ∃ s, f = .str s ∧ s.size ≤ B := by
  cases h; exact ⟨_, rfl, by assumption⟩
theorem wc_bool {f : FV} (h : WC P D B .bool f) : ∃ s, f = .bool s := by
  cases h; exact ⟨_, rfl⟩

theorem wc_strs {ts : Nat} (hfs : flat P D ts = [.str]) (hss : szOf P ts = some (1, false)) {f : FV} (h : WC P D B (.sl ts) f) : ∃ l : List ByteArray, f = .sl (l.map .str) ∧ (∀ s ∈ l, s.size ≤ B) ∧ l.length * P.bytesOf ts ≤ B := by
  cases h with
  | sl _ es hl hb hf h =>
    obtain ⟨m, rfl, hm⟩ := choose_list (f := FV.str) (p := fun s => s.size ≤ B) (l := es) fun x hx => by
      obtain ⟨n, agg, hs, hfit⟩ := hf x hx
      rw [hss] at hs; cases hs
      have hc := (fits_one hfit).2.2
      exact wc_str (h x hx 0 x .str (by rw [hc]; rfl) (by rw [hfs]; rfl))
    exact ⟨m, rfl, hm, by simpa using hb⟩

theorem wc_ints {ts : Nat} {k : IntKind} (hfs : flat P D ts = [.int k]) (hss : szOf P ts = some (1, false)) {f : FV} (h : WC P D B (.sl ts) f) : ∃ l : List Int, f = .sl (l.map (.int k)) ∧ (∀ s ∈ l, (Lit.int k s).wf = true) ∧ l.length * P.bytesOf ts ≤ B := by
  cases h with
  | sl _ es hl hb hf h =>
    obtain ⟨m, rfl, hm⟩ := choose_list (f := FV.int k) (p := fun s => (Lit.int k s).wf = true) (l := es) fun x hx => by
      obtain ⟨n, agg, hs, hfit⟩ := hf x hx
      rw [hss] at hs; cases hs
      have hc := (fits_one hfit).2.2
      exact wc_int (h x hx 0 x (.int k) (by rw [hc]; rfl) (by rw [hfs]; rfl))
    exact ⟨m, rfl, hm, by simpa using hb⟩

theorem len6 {α : Type} {l : List α} (h : l.length = 6) : ∃ a b c d e f, l = [a, b, c, d, e, f] := by
  match l, h with
  | [a, b, c, d, e, f], _ => exact ⟨a, b, c, d, e, f, rfl⟩
theorem len2 {α : Type} {l : List α} (h : l.length = 2) : ∃ a b, l = [a, b] := by
  match l, h with
  | [a, b], _ => exact ⟨a, b, rfl⟩
theorem len3 {α : Type} {l : List α} (h : l.length = 3) : ∃ a b c, l = [a, b, c] := by
  match l, h with
  | [a, b, c], _ => exact ⟨a, b, c, rfl⟩

section
variable {t ts : Nat} (hft : flat P D t = [.int .i64, .int .i64, .int .i64, .str, .sl t, .sl ts]) (hfs : flat P D ts = [.str]) (hst : szOf P t = some (6, true)) (hss : szOf P ts = some (1, false)) (hb : P.bytesOf t = 88) (hbs : P.bytesOf ts = 16)
include hft hfs hst hss hb hbs

/-- Six cells, each of which is of its kind, are a value. -/
theorem jv_six {a b c d e f : FV} (h0 : WC P D B (.int .i64) a) (h1 : WC P D B (.int .i64) b) (h2 : WC P D B (.int .i64) c) (h3 : WC P D B .str d) (h4 : ∃ l : List JV, e = .sl (l.map JV.enc) ∧ (∀ v ∈ l, JV.Ok B v) ∧ l.length * 88 ≤ B) (h5 : WC P D B (.sl ts) f) :
    ∃ v : JV, FV.ag [a, b, c, d, e, f] = v.enc ∧ JV.Ok B v := by
  obtain ⟨k, rfl, wk⟩ := wc_int h0
  obtain ⟨cc, rfl, wc⟩ := wc_int h1
  obtain ⟨s, rfl, ws⟩ := wc_int h2
  obtain ⟨tt, rfl, wt⟩ := wc_str h3
  obtain ⟨l, rfl, hl, hb'⟩ := h4
  obtain ⟨m, rfl, hm, hbm⟩ := wc_strs hfs hss h5
  rw [hbs] at hbm
  exact ⟨.mk k cc s tt l m, (JV.enc_mk ..).symm, .mk wk wc ws wt hb' hbm hm hl⟩

theorem jvs_of {c : CT} {f : FV} (h : WC P D B c f) : c = .sl t → ∃ l : List JV, f = .sl (l.map JV.enc) ∧ (∀ v ∈ l, JV.Ok B v) ∧ l.length * 88 ≤ B := by
  induction h with
  | int k n h => intro e; cases e
  | bool b => intro e; cases e
  | str s h => intro e; cases e
  | sl e es hl hb' hf h ih =>
    intro he
    cases he
    obtain ⟨m, rfl, hm⟩ := choose_list (f := JV.enc) (p := JV.Ok B) (l := es) fun x hx => by
      obtain ⟨n, agg, hs, hfit⟩ := hf x hx
      rw [hst] at hs; cases hs
      obtain ⟨cs, rfl, hcs⟩ := fits_agg hfit
      obtain ⟨c0, c1, c2, c3, c4, c5, rfl⟩ := len6 hcs
      have H := fun j y c => h _ hx j y c
      have I := fun j y c => ih _ hx j y c
      simp only [FV.cells, hft] at H I
      exact jv_six hft hfs hst hss hb hbs (H 0 c0 _ rfl rfl) (H 1 c1 _ rfl rfl) (H 2 c2 _ rfl rfl) (H 3 c3 _ rfl rfl) (I 4 c4 _ rfl rfl rfl) (H 5 c5 _ rfl rfl)
    exact ⟨m, rfl, hm, by rw [hb] at hb'; simpa using hb'⟩

theorem jv_of {f : FV} (h : WV P D B t f) : ∃ v : JV, f = v.enc ∧ JV.Ok B v := by
  obtain ⟨⟨n, agg, hs, hfit⟩, H⟩ := h
  rw [hst] at hs; cases hs
  obtain ⟨cs, rfl, hcs⟩ := fits_agg hfit
  obtain ⟨c0, c1, c2, c3, c4, c5, rfl⟩ := len6 hcs
  simp only [FV.cells, hft] at H
  exact jv_six hft hfs hst hss hb hbs (H 0 c0 _ rfl rfl) (H 1 c1 _ rfl rfl) (H 2 c2 _ rfl rfl) (H 3 c3 _ rfl rfl) (jvs_of hft hfs hst hss hb hbs (H 4 c4 _ rfl rfl) rfl) (H 5 c5 _ rfl rfl)
end

theorem str2_of {t : Nat} (hft : flat P D t = [.str, .str]) (hst : szOf P t = some (2, true)) {f : FV} (h : WV P D B t f) : ∃ a b : ByteArray, f = .ag [.str a, .str b] ∧ a.size ≤ B ∧ b.size ≤ B := by
  obtain ⟨⟨n, agg, hs, hfit⟩, H⟩ := h
  rw [hst] at hs; cases hs
  obtain ⟨cs, rfl, hcs⟩ := fits_agg hfit
  obtain ⟨c0, c1, rfl⟩ := len2 hcs
  simp only [FV.cells, hft] at H
  obtain ⟨a, rfl, ha⟩ := wc_str (H 0 c0 _ rfl rfl)
  obtain ⟨b, rfl, hb⟩ := wc_str (H 1 c1 _ rfl rfl)
  exact ⟨a, b, rfl, ha, hb⟩

theorem str_of {t : Nat} (hft : flat P D t = [.str]) (hst : szOf P t = some (1, false)) {f : FV} (h : WV P D B t f) : ∃ a : ByteArray, f = .str a ∧ a.size ≤ B := by
  obtain ⟨⟨n, agg, hs, hfit⟩, H⟩ := h
  rw [hst] at hs; cases hs
  have hc := (fits_one hfit).2.2
  exact wc_str (H 0 f .str (by rw [hc]; rfl) (by rw [hft]; rfl))
theorem int_of {t : Nat} {k : IntKind} (hft : flat P D t = [.int k]) (hst : szOf P t = some (1, false)) {f : FV} (h : WV P D B t f) : ∃ a : Int, f = .int k a ∧ (Lit.int k a).wf = true := by
  obtain ⟨⟨n, agg, hs, hfit⟩, H⟩ := h
  rw [hst] at hs; cases hs
  have hc := (fits_one hfit).2.2
  exact wc_int (H 0 f (.int k) (by rw [hc]; rfl) (by rw [hft]; rfl))
theorem bool_of {t : Nat} (hft : flat P D t = [.bool]) (hst : szOf P t = some (1, false)) {f : FV} (h : WV P D B t f) : ∃ a : Bool, f = .bool a := by
  obtain ⟨⟨n, agg, hs, hfit⟩, H⟩ := h
  rw [hst] at hs; cases hs
  have hc := (fits_one hfit).2.2
  exact wc_bool (H 0 f .bool (by rw [hc]; rfl) (by rw [hft]; rfl))
end
end Go.Ab
