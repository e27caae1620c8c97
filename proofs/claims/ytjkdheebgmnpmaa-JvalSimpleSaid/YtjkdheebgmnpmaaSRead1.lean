/- What an argument is read as: two values; short texts. -/
import Derived.Test.YtjkdheebgmnpmaaSRead0
import Derived.Test.YtjkdheebgmnpmaaSIsR
namespace Go.Ab
set_option linter.unusedVariables false
set_option linter.unusedSimpArgs false
set_option linter.unusedSectionVars false

theorem JV.Ok.short {B : Nat} {v : JV} (hB : B ≤ 8796093022208) (h : JV.Ok B v) : v.Short := by
  induction h with
  | mk _ _ _ ht _ _ hs _ ih => exact .mk (Nat.le_trans ht hB) (fun s h => Nat.le_trans (hs s h) hB) ih

theorem len12 {α : Type} {l : List α} (h : l.length = 12) : ∃ a b c d e f a' b' c' d' e' f', l = [a, b, c, d, e, f, a', b', c', d', e', f'] := by
  match l, h with
  | [a, b, c, d, e, f, a', b', c', d', e', f'], _ => exact ⟨a, b, c, d, e, f, a', b', c', d', e', f', rfl⟩

section
variable {P : Program} {D B t ts : Nat} (hft : flat P D t = [.int .i64, .int .i64, .int .i64, .str, .sl t, .sl ts]) (hfs : flat P D ts = [.str]) (hst : szOf P t = some (6, true)) (hss : szOf P ts = some (1, false)) (hb : P.bytesOf t = 88) (hbs : P.bytesOf ts = 16)
include hft hfs hst hss hb hbs
theorem jv2_of {t2 : Nat} (hf2 : flat P D t2 = [.int .i64, .int .i64, .int .i64, .str, .sl t, .sl ts, .int .i64, .int .i64, .int .i64, .str, .sl t, .sl ts]) (hs2 : szOf P t2 = some (12, true)) {f : FV} (h : WV P D B t2 f) : ∃ v w : JV, f = .ag (v.enc.toAg ++ w.enc.toAg) ∧ JV.Ok B v ∧ JV.Ok B w := by
  obtain ⟨⟨n, agg, hs, hfit⟩, H⟩ := h
  rw [hs2] at hs; cases hs
  obtain ⟨cs, rfl, hcs⟩ := fits_agg hfit
  obtain ⟨c0, c1, c2, c3, c4, c5, d0, d1, d2, d3, d4, d5, rfl⟩ := len12 hcs
  simp only [FV.cells, hf2] at H
  obtain ⟨v, hv, hvo⟩ := jv_six hft hfs hst hss hb hbs (H 0 c0 _ rfl rfl) (H 1 c1 _ rfl rfl) (H 2 c2 _ rfl rfl) (H 3 c3 _ rfl rfl) (jvs_of hft hfs hst hss hb hbs (H 4 c4 _ rfl rfl) rfl) (H 5 c5 _ rfl rfl)
  obtain ⟨w, hw, hwo⟩ := jv_six hft hfs hst hss hb hbs (H 6 d0 _ rfl rfl) (H 7 d1 _ rfl rfl) (H 8 d2 _ rfl rfl) (H 9 d3 _ rfl rfl) (jvs_of hft hfs hst hss hb hbs (H 10 d4 _ rfl rfl) rfl) (H 11 d5 _ rfl rfl)
  exact ⟨v, w, by rw [← hv, ← hw]; rfl, hvo, hwo⟩
end
end Go.Ab
