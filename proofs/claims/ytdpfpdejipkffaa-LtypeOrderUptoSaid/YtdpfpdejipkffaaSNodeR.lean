/- Nodes as arguments; the fixed answer of a law over nodes. -/
import Derived.Test.YtdpfpdejipkffaaSNode0
import Derived.Test.YtdpfpdejipkffaaSReadB
import Derived.Test.YtdpfpdejipkffaaSOf
namespace Go.Ab
set_option linter.unusedVariables false
set_option linter.unusedSimpArgs false
set_option linter.unusedSectionVars false
theorem len8 {α : Type} {l : List α} (h : l.length = 8) : ∃ a b c d e f g i, l = [a, b, c, d, e, f, g, i] := by
  match l, h with
  | [a, b, c, d, e, f, g, i], _ => exact ⟨a, b, c, d, e, f, g, i, rfl⟩
section
variable {P : Program} {D B : Nat} {t ts : Nat} (hB : B ≤ 134217728) (hft : flat P D t = [.int .i64, .int .i64, .int .i64, .int .i64, .int .i64, .str, .sl t, .sl ts]) (hfs : flat P D ts = [.str]) (hst : szOf P t = some (8, true)) (hss : szOf P ts = some (1, false)) (hb : P.bytesOf t = 104) (hbs : P.bytesOf ts = 16)
include hB hft hfs hst hss hb hbs
theorem nd_eight {a b c d e s f g : FV} (h0 : WC P D B (.int .i64) a) (h1 : WC P D B (.int .i64) b) (h2 : WC P D B (.int .i64) c) (h3 : WC P D B (.int .i64) d) (h4 : WC P D B (.int .i64) e) (h5 : WC P D B .str s) (h6 : ∃ l : List ND, f = .sl (l.map ND.enc) ∧ (∀ v ∈ l, v.Sm) ∧ l.length * 104 ≤ B) (h7 : WC P D B (.sl ts) g) :
    ∃ v : ND, FV.ag [a, b, c, d, e, s, f, g] = v.enc ∧ v.Sm := by
  obtain ⟨a, rfl, _⟩ := wc_int h0
  obtain ⟨b, rfl, _⟩ := wc_int h1
  obtain ⟨c, rfl, _⟩ := wc_int h2
  obtain ⟨d, rfl, _⟩ := wc_int h3
  obtain ⟨e, rfl, _⟩ := wc_int h4
  obtain ⟨tt, rfl, wt⟩ := wc_str h5
  obtain ⟨l, rfl, hl, hb'⟩ := h6
  obtain ⟨m, rfl, hm, hbm⟩ := wc_strs hfs hss h7
  rw [hbs] at hbm
  exact ⟨.mk a b c d e tt l m, (ND.enc_mk ..).symm, .mk (by omega) (by omega) (by omega) (fun s h => by have := hm s h; omega) hl⟩
theorem nds_of {c : CT} {f : FV} (h : WC P D B c f) : c = .sl t → ∃ l : List ND, f = .sl (l.map ND.enc) ∧ (∀ v ∈ l, v.Sm) ∧ l.length * 104 ≤ B := by
  induction h with
  | int k n h => intro e; cases e
  | bool b => intro e; cases e
  | str s h => intro e; cases e
  | sl e es hl hb' hf h ih =>
    intro he
    cases he
    obtain ⟨m, rfl, hm⟩ := choose_list (f := ND.enc) (p := ND.Sm) (l := es) fun x hx => by
      obtain ⟨n, agg, hs, hfit⟩ := hf x hx
      rw [hst] at hs; cases hs
      obtain ⟨cs, rfl, hcs⟩ := fits_agg hfit
      obtain ⟨c0, c1, c2, c3, c4, c5, c6, c7, rfl⟩ := len8 hcs
      have H := fun j y c => h _ hx j y c
      have I := fun j y c => ih _ hx j y c
      simp only [FV.cells, hft] at H I
      exact nd_eight hB hft hfs hst hss hb hbs (H 0 c0 _ rfl rfl) (H 1 c1 _ rfl rfl) (H 2 c2 _ rfl rfl) (H 3 c3 _ rfl rfl) (H 4 c4 _ rfl rfl) (H 5 c5 _ rfl rfl) (I 6 c6 _ rfl rfl rfl) (H 7 c7 _ rfl rfl)
    exact ⟨m, rfl, hm, by rw [hb] at hb'; simpa using hb'⟩
theorem nd_of {f : FV} (h : WV P D B t f) : ∃ v : ND, f = v.enc ∧ v.Sm := by
  obtain ⟨⟨n, agg, hs, hfit⟩, H⟩ := h
  rw [hst] at hs; cases hs
  obtain ⟨cs, rfl, hcs⟩ := fits_agg hfit
  obtain ⟨c0, c1, c2, c3, c4, c5, c6, c7, rfl⟩ := len8 hcs
  simp only [FV.cells, hft] at H
  exact nd_eight hB hft hfs hst hss hb hbs (H 0 c0 _ rfl rfl) (H 1 c1 _ rfl rfl) (H 2 c2 _ rfl rfl) (H 3 c3 _ rfl rfl) (H 4 c4 _ rfl rfl) (H 5 c5 _ rfl rfl) (nds_of hB hft hfs hst hss hb hbs (H 6 c6 _ rfl rfl) rfl) (H 7 c7 _ rfl rfl)
end
theorem lives25_ok : Rt N_law25_lives [] = some ([.fz (.bool true)], []) := RR_tells.2 ⟨40, by kernel_rfl⟩
end Go.Ab
