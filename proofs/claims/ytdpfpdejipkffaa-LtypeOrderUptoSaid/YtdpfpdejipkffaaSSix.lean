/- The six policies: their lattices and tables. -/
import Derived.Test.YtdpfpdejipkffaaSLev5
namespace Go.Ab
set_option linter.unusedVariables false
set_option linter.unusedSimpArgs false

structure Pol where
  names : List ByteArray
  pairs : List (Int × Int)
  ups : List (List Nat)
def Pol.g (P : Pol) : Tb := fun a b => (P.ups.getD a []).elem b
def Pol.ok (P : Pol) : Bool :=
  let n := P.names.length
  let f := layP (diag n) P.pairs
  namedB P.names && (laidB n P.pairs && ((List.range n).all (fun a => P.g a a && (List.range n).all fun b => (List.range n).all fun c => !(P.g a b && P.g b c) || P.g a c) && (P.pairs.all (fun p => P.g p.1.toNat p.2.toNat) &&
    (P.ups.length == n && ((List.range n).all (fun a => (P.ups.getD a []).all fun b => Nat.blt b n && (List.range n).any fun c => (List.range n).any fun d => f a c && (f c d && f d b)) && newC P.names P.pairs P.g == 0)))))
theorem Pol.facts {P : Pol} (h : P.ok = true) : namedB P.names = true ∧ laidB P.names.length P.pairs = true ∧ Clo P.names.length (layP (diag P.names.length) P.pairs) P.g ∧ newC P.names P.pairs P.g = 0 := by
  simp only [Pol.ok, Bool.and_eq_true, List.all_eq_true, List.any_eq_true, List.mem_range, beq_iff_eq, Nat.blt_eq] at h
  obtain ⟨h1, h2, h3, h4, h5, h6, h7⟩ := h
  refine ⟨h1, h2, ⟨fun a b x => ?_, fun a b c ha hb hc x y => ?_, fun h hl ht a b x => ?_⟩, h7⟩
  · rcases layP_iff.1 x with x | ⟨p, hp, rfl, rfl⟩
    · simp only [diag, Bool.and_eq_true, decide_eq_true_eq] at x
      obtain ⟨rfl, ha⟩ := x
      exact (h3 a ha).1
    · exact h4 p hp
  · have := (h3 a ha).2 b hb c hc
    simpa [x, y] using this
  · have hmem : b ∈ P.ups.getD a [] := by simpa [Pol.g] using x
    have ha : a < P.names.length := by
      apply Classical.byContradiction
      intro q
      rw [List.getD_eq_getElem?_getD, List.getElem?_eq_none (by omega)] at hmem
      cases hmem
    obtain ⟨hb, c, hc, d, hd, x1, x2, x3⟩ := h6 a ha b hmem
    exact ht a d b ha hd hb (ht a c d ha hc hd (hl _ _ x1) (hl _ _ x2)) (hl _ _ x3)
def pol0 : Pol := ⟨[(⟨#[108, 111, 119]⟩ : ByteArray), (⟨#[104, 105, 103, 104]⟩ : ByteArray)], [(0, 1)], [[0, 1], [1]]⟩
theorem pol0_ok : pol0.ok = true := by decide +kernel
def pol1 : Pol := ⟨[(⟨#[108, 111, 119]⟩ : ByteArray), (⟨#[108, 101, 102, 116]⟩ : ByteArray), (⟨#[114, 105, 103, 104, 116]⟩ : ByteArray), (⟨#[104, 105, 103, 104]⟩ : ByteArray)], [(0, 1), (0, 2), (1, 3), (2, 3)], [[0, 1, 2, 3], [1, 3], [2, 3], [3]]⟩
theorem pol1_ok : pol1.ok = true := by decide +kernel
def pol2 : Pol := ⟨[(⟨#[97]⟩ : ByteArray), (⟨#[98]⟩ : ByteArray), (⟨#[99]⟩ : ByteArray)], [(0, 1), (1, 2)], [[0, 1, 2], [1, 2], [2]]⟩
theorem pol2_ok : pol2.ok = true := by decide +kernel
def pol3 : Pol := ⟨[(⟨#[111, 110, 101]⟩ : ByteArray)], [], [[0]]⟩
theorem pol3_ok : pol3.ok = true := by decide +kernel
def pol4 : Pol := ⟨[(⟨#[116, 111, 112]⟩ : ByteArray), (⟨#[120]⟩ : ByteArray), (⟨#[121]⟩ : ByteArray), (⟨#[122]⟩ : ByteArray), (⟨#[98, 111, 116]⟩ : ByteArray)], [(4, 1), (4, 2), (4, 3), (1, 0), (2, 0), (3, 0)], [[0], [1, 0], [2, 0], [3, 0], [0, 1, 2, 3, 4]]⟩
theorem pol4_ok : pol4.ok = true := by decide +kernel
def pol5 : Pol := ⟨[(⟨#[111]⟩ : ByteArray), (⟨#[112]⟩ : ByteArray), (⟨#[113]⟩ : ByteArray), (⟨#[114]⟩ : ByteArray), (⟨#[112, 113]⟩ : ByteArray), (⟨#[112, 114]⟩ : ByteArray), (⟨#[113, 114]⟩ : ByteArray), (⟨#[97, 108, 108]⟩ : ByteArray)], [(0, 1), (0, 2), (0, 3), (1, 4), (2, 4), (1, 5), (3, 5), (2, 6), (3, 6), (4, 7), (5, 7), (6, 7)], [[0, 1, 2, 3, 4, 5, 6, 7], [1, 4, 5, 7], [2, 4, 6, 7], [3, 5, 6, 7], [4, 7], [5, 7], [6, 7], [7]]⟩
theorem pol5_ok : pol5.ok = true := by decide +kernel

def Pol.e (P : Pol) : FV := polE P.names P.pairs []
theorem Pol.nice {P : Pol} (h : P.ok = true) : Nice P.names.length P.g := nice_of (Pol.facts h).2.2.1 (Pol.facts h).2.2.2
theorem Pol.new {P : Pol} (h : P.ok = true) : Rt N_level_New [.fz P.e] = some ([.fz (.pt 195 true (latR P.names P.g) 0), .fz (.int .i64 0)], []) := by
  obtain ⟨h1, h2, h3, h4⟩ := Pol.facts h
  obtain ⟨g, hg, hn⟩ := New_ok P.names P.pairs []
  have : g = P.g := by funext a b; exact (hg h1).uniq h3 a b
  subst this
  rw [h4] at hn
  exact hn
theorem Pol.table {P : Pol} (h : P.ok = true) : Rt N_ref01_Table [.fz P.e] = some ([.fz (.sl (tabL P.names.length (rowOf P.names.length P.pairs) P.names.length))], []) := Table_ok [] (Pol.nice h).n8 (Pol.facts h).2.1
theorem Pol.lat {P : Pol} (h : P.ok = true) : IsLat (latR P.names P.g) (ltR P.names.length P.g) := latR_is (Pol.nice h)
theorem Pol.tab {P : Pol} (h : P.ok = true) : IsTab (tabL P.names.length (rowOf P.names.length P.pairs) P.names.length) (ltR P.names.length P.g) := by
  obtain ⟨h1, h2, h3, h4⟩ := Pol.facts h
  simp only [laidB, Bool.and_eq_true] at h2
  exact tab_is h2.2 h3

theorem Sort_ok (k : Int) : ∃ P : Pol, P.ok = true ∧ Rt N_ref01_Sort [.fz (.int .i64 k)] = some ([.fz P.e], []) := by
  have hr : ∀ r, callL Rt 0 true A_ref01_Sort [.fz (.int .i64 k)] = some r → Rt N_ref01_Sort [.fz (.int .i64 k)] = some r := fun r h => rt_call A_ref01_Sort rfl rfl 0 h
  rw [E_ref01_Sort] at hr
  generalize (Int.tmod (IntKind.wrap .i64 ((Int.tmod k 6) + 6)) 6) = v at hr
  by_cases h0 : v = 0
  · refine ⟨pol0, pol0_ok, hr _ ?_⟩
    rw [show (v == 0) = true by simp [h0]]; rfl
  by_cases h1 : v = 1
  · refine ⟨pol1, pol1_ok, hr _ ?_⟩
    rw [show (v == 0) = false by simp [h0], show (v == 1) = true by simp [h1]]; rfl
  by_cases h2 : v = 2
  · refine ⟨pol2, pol2_ok, hr _ ?_⟩
    rw [show (v == 0) = false by simp [h0], show (v == 1) = false by simp [h1], show (v == 2) = true by simp [h2]]; rfl
  by_cases h3 : v = 3
  · refine ⟨pol3, pol3_ok, hr _ ?_⟩
    rw [show (v == 0) = false by simp [h0], show (v == 1) = false by simp [h1], show (v == 2) = false by simp [h2], show (v == 3) = true by simp [h3]]; rfl
  by_cases h4 : v = 4
  · refine ⟨pol4, pol4_ok, hr _ ?_⟩
    rw [show (v == 0) = false by simp [h0], show (v == 1) = false by simp [h1], show (v == 2) = false by simp [h2], show (v == 3) = false by simp [h3], show (v == 4) = true by simp [h4]]; rfl
  · refine ⟨pol5, pol5_ok, hr _ ?_⟩
    rw [show (v == 0) = false by simp [h0], show (v == 1) = false by simp [h1], show (v == 2) = false by simp [h2], show (v == 3) = false by simp [h3], show (v == 4) = false by simp [h4]]; rfl
end Go.Ab
