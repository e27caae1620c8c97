/- A policy's lattice: what is made of any policy. -/
import Derived.Test.YtdpfpdejipkffaaSLev3
namespace Go.Ab
set_option linter.unusedVariables false
set_option linter.unusedSimpArgs false

def polE (names : List ByteArray) (pairs : List (Int × Int)) (pp : List FV) : FV := .ag [.sl (strs names), .sl (prs pairs), .sl pp]
def latR (names : List ByteArray) (g : Tb) : FV := latE (strs names) g (JT g names.length names.length 0) (JT (trn g) names.length names.length 0) (botF (JT (trn g) names.length names.length 0) names.length 0 0) (botF (JT g names.length names.length 0) names.length 0 0)
def newC (names : List ByteArray) (pairs : List (Int × Int)) (g : Tb) : Int :=
  match namedB names with
  | false => 10
  | true => match laidB names.length pairs with
    | false => 2
    | true => match tws2 g names.length 0 with
      | true => 9
      | false => match fillB g names.length with
        | false => 9
        | true => 0
theorem ag64 (g : Tb) : FV.ag [FV.cell (bT g) 0, FV.cell (bT g) 1, FV.cell (bT g) 2, FV.cell (bT g) 3, FV.cell (bT g) 4, FV.cell (bT g) 5, FV.cell (bT g) 6, FV.cell (bT g) 7, FV.cell (bT g) 8, FV.cell (bT g) 9, FV.cell (bT g) 10, FV.cell (bT g) 11, FV.cell (bT g) 12, FV.cell (bT g) 13, FV.cell (bT g) 14, FV.cell (bT g) 15, FV.cell (bT g) 16, FV.cell (bT g) 17, FV.cell (bT g) 18, FV.cell (bT g) 19, FV.cell (bT g) 20, FV.cell (bT g) 21, FV.cell (bT g) 22, FV.cell (bT g) 23, FV.cell (bT g) 24, FV.cell (bT g) 25, FV.cell (bT g) 26, FV.cell (bT g) 27, FV.cell (bT g) 28, FV.cell (bT g) 29, FV.cell (bT g) 30, FV.cell (bT g) 31, FV.cell (bT g) 32, FV.cell (bT g) 33, FV.cell (bT g) 34, FV.cell (bT g) 35, FV.cell (bT g) 36, FV.cell (bT g) 37, FV.cell (bT g) 38, FV.cell (bT g) 39, FV.cell (bT g) 40, FV.cell (bT g) 41, FV.cell (bT g) 42, FV.cell (bT g) 43, FV.cell (bT g) 44, FV.cell (bT g) 45, FV.cell (bT g) 46, FV.cell (bT g) 47, FV.cell (bT g) 48, FV.cell (bT g) 49, FV.cell (bT g) 50, FV.cell (bT g) 51, FV.cell (bT g) 52, FV.cell (bT g) 53, FV.cell (bT g) 54, FV.cell (bT g) 55, FV.cell (bT g) 56, FV.cell (bT g) 57, FV.cell (bT g) 58, FV.cell (bT g) 59, FV.cell (bT g) 60, FV.cell (bT g) 61, FV.cell (bT g) 62, FV.cell (bT g) 63] = bT g := by kernel_rfl
theorem lat0 (nm : List FV) (g : Tb) : FV.ag [.sl nm, FV.cell (bT g) 0, FV.cell (bT g) 1, FV.cell (bT g) 2, FV.cell (bT g) 3, FV.cell (bT g) 4, FV.cell (bT g) 5, FV.cell (bT g) 6, FV.cell (bT g) 7, FV.cell (bT g) 8, FV.cell (bT g) 9, FV.cell (bT g) 10, FV.cell (bT g) 11, FV.cell (bT g) 12, FV.cell (bT g) 13, FV.cell (bT g) 14, FV.cell (bT g) 15, FV.cell (bT g) 16, FV.cell (bT g) 17, FV.cell (bT g) 18, FV.cell (bT g) 19, FV.cell (bT g) 20, FV.cell (bT g) 21, FV.cell (bT g) 22, FV.cell (bT g) 23, FV.cell (bT g) 24, FV.cell (bT g) 25, FV.cell (bT g) 26, FV.cell (bT g) 27, FV.cell (bT g) 28, FV.cell (bT g) 29, FV.cell (bT g) 30, FV.cell (bT g) 31, FV.cell (bT g) 32, FV.cell (bT g) 33, FV.cell (bT g) 34, FV.cell (bT g) 35, FV.cell (bT g) 36, FV.cell (bT g) 37, FV.cell (bT g) 38, FV.cell (bT g) 39, FV.cell (bT g) 40, FV.cell (bT g) 41, FV.cell (bT g) 42, FV.cell (bT g) 43, FV.cell (bT g) 44, FV.cell (bT g) 45, FV.cell (bT g) 46, FV.cell (bT g) 47, FV.cell (bT g) 48, FV.cell (bT g) 49, FV.cell (bT g) 50, FV.cell (bT g) 51, FV.cell (bT g) 52, FV.cell (bT g) 53, FV.cell (bT g) 54, FV.cell (bT g) 55, FV.cell (bT g) 56, FV.cell (bT g) 57, FV.cell (bT g) 58, FV.cell (bT g) 59, FV.cell (bT g) 60, FV.cell (bT g) 61, FV.cell (bT g) 62, FV.cell (bT g) 63, .int .i64 0, .int .i64 0, .int .i64 0, .int .i64 0, .int .i64 0, .int .i64 0, .int .i64 0, .int .i64 0, .int .i64 0, .int .i64 0, .int .i64 0, .int .i64 0, .int .i64 0, .int .i64 0, .int .i64 0, .int .i64 0, .int .i64 0, .int .i64 0, .int .i64 0, .int .i64 0, .int .i64 0, .int .i64 0, .int .i64 0, .int .i64 0, .int .i64 0, .int .i64 0, .int .i64 0, .int .i64 0, .int .i64 0, .int .i64 0, .int .i64 0, .int .i64 0, .int .i64 0, .int .i64 0, .int .i64 0, .int .i64 0, .int .i64 0, .int .i64 0, .int .i64 0, .int .i64 0, .int .i64 0, .int .i64 0, .int .i64 0, .int .i64 0, .int .i64 0, .int .i64 0, .int .i64 0, .int .i64 0, .int .i64 0, .int .i64 0, .int .i64 0, .int .i64 0, .int .i64 0, .int .i64 0, .int .i64 0, .int .i64 0, .int .i64 0, .int .i64 0, .int .i64 0, .int .i64 0, .int .i64 0, .int .i64 0, .int .i64 0, .int .i64 0, .int .i64 0, .int .i64 0, .int .i64 0, .int .i64 0, .int .i64 0, .int .i64 0, .int .i64 0, .int .i64 0, .int .i64 0, .int .i64 0, .int .i64 0, .int .i64 0, .int .i64 0, .int .i64 0, .int .i64 0, .int .i64 0, .int .i64 0, .int .i64 0, .int .i64 0, .int .i64 0, .int .i64 0, .int .i64 0, .int .i64 0, .int .i64 0, .int .i64 0, .int .i64 0, .int .i64 0, .int .i64 0, .int .i64 0, .int .i64 0, .int .i64 0, .int .i64 0, .int .i64 0, .int .i64 0, .int .i64 0, .int .i64 0, .int .i64 0, .int .i64 0, .int .i64 0, .int .i64 0, .int .i64 0, .int .i64 0, .int .i64 0, .int .i64 0, .int .i64 0, .int .i64 0, .int .i64 0, .int .i64 0, .int .i64 0, .int .i64 0, .int .i64 0, .int .i64 0, .int .i64 0, .int .i64 0, .int .i64 0, .int .i64 0, .int .i64 0, .int .i64 0, .int .i64 0, .int .i64 0, .int .i64 0, .int .i64 0, .int .i64 0, .int .i64 0, .int .i64 0, .int .i64 0] = latE nm g (fun _ _ => 0) (fun _ _ => 0) 0 0 := by kernel_rfl

theorem named_len {l : List ByteArray} (h : namedB l = true) : 1 ≤ l.length ∧ l.length ≤ 8 := by
  simp only [namedB, Bool.and_eq_true, decide_eq_true_eq] at h
  exact ⟨h.1, h.2.1⟩

theorem New_ok (names : List ByteArray) (pairs : List (Int × Int)) (pp : List FV) : ∃ g, (namedB names = true → Clo names.length (layP (diag names.length) pairs) g) ∧
    Rt N_level_New [.fz (polE names pairs pp)] = some (match newC names pairs g with
      | 0 => ([.fz (.pt 195 true (latR names g) 0), .fz (.int .i64 0)], [])
      | c => ([.fz .nilp, .fz (.int .i64 c)], [])) := by
  have hE := fun R k w => E_level_New R k w (strs names) (prs pairs) pp
  cases q0 : namedB names with
  | false =>
    refine ⟨zT, by simp, ?_⟩
    refine rt_call A_level_New rfl rfl 0 ?_
    unfold polE
    rw [hE, named_ok, q0]
    simp [onR_some, newC, q0]
  | true =>
    obtain ⟨n1, n8⟩ := named_len q0
    obtain ⟨g, hg, hc⟩ := closed_ok n8 (layP (diag names.length) pairs)
    refine ⟨g, fun _ => hg, ?_⟩
    refine rt_call A_level_New rfl rfl 0 ?_
    unfold polE
    obtain ⟨t, h1, h2, h3⟩ := laid_ok n8 pairs
    rw [hE, named_ok, q0]
    simp only [onR_some, List.isEmpty_nil, allF_cons, allF_nil, Bool.and_true, when_true', List.getD_cons_zero, List.getD_cons_succ, toF_fz, isBool_bool, toBool_bool, Bool.not_true, ifB_false, strs_len, h1, h2]
    cases q1 : laidB names.length pairs with
    | false => simp only [Bool.not_false, ifB_true, newC, q0, q1]
    | true =>
      obtain rfl := h3 q1
      have hr : (decide (((0 : Nat) + names.length) * 16 ≤ roomy) && decide ((0 : Nat) + names.length ≤ roomy)) = true := by
        have : roomy = 140737488355328 := rfl
        simp; omega
      have tw := twisted_ok n8 g
      obtain ⟨e', f1, f2⟩ := fill_ok n8 n1 (strs names) g
      simp only [Bool.not_true, ifB_false, strs_fits, when_true', hr, hc, onR_some, List.isEmpty_nil, allF_cons, allF_nil, Bool.and_true, List.getD_cons_zero, toF_fz, bT_ag, ag64, lat0, tw, isBool_bool, toBool_bool]
      cases q2 : tws2 g names.length 0 with
      | true => simp only [ifB_true, newC, q0, q1, q2]
      | false =>
        simp only [ifB_false, f1, onR_some, List.length_cons, List.length_nil, List.all_cons, List.all_nil, lisFz_fz, Bool.and_true, beq_self_eq_true, when_true', List.getD_cons_zero, isF_fz, toF_fz, isBool_bool, toBool_bool, ltoFz_fz]
        cases q3 : fillB g names.length with
        | false => simp only [Bool.not_false, ifB_true, newC, q0, q1, q2, q3]
        | true =>
          rw [f2 q3]
          simp only [Bool.not_true, ifB_false, newC, q0, q1, q2, q3, latR]

/-! The order. -/
theorem tws1_iff {f : Tb} {a : Nat} : ∀ {m b : Nat}, tws1 f a m b = true ↔ ∃ c, b ≤ c ∧ c < b + m ∧ f a c = true ∧ f c a = true
  | 0, b => by simp [tws1]; intro c h1 h2; omega
  | m + 1, b => by
    simp only [tws1, Bool.or_eq_true, Bool.and_eq_true, tws1_iff (m := m)]
    constructor
    · rintro (h | ⟨c, h1, h2, h3⟩)
      · exact ⟨b, by omega, by omega, h⟩
      · exact ⟨c, by omega, by omega, h3⟩
    · rintro ⟨c, h1, h2, h3⟩
      by_cases e : b = c
      · subst e; exact .inl h3
      · exact .inr ⟨c, by omega, by omega, h3⟩
theorem tws2_iff {f : Tb} : ∀ {m a : Nat}, tws2 f m a = true ↔ ∃ b, a ≤ b ∧ b < a + m ∧ tws1 f b b 0 = true
  | 0, b => by simp [tws2]; intro c h1 h2; omega
  | m + 1, b => by
    simp only [tws2, Bool.or_eq_true, tws2_iff (m := m)]
    constructor
    · rintro (h | ⟨c, h1, h2, h3⟩)
      · exact ⟨b, by omega, by omega, h⟩
      · exact ⟨c, by omega, by omega, h3⟩
    · rintro ⟨c, h1, h2, h3⟩
      by_cases e : b = c
      · subst e; exact .inl h3
      · exact .inr ⟨c, by omega, by omega, h3⟩
theorem tws_anti {f : Tb} {n : Nat} : tws2 f n 0 = false ↔ ∀ a b, a < n → b < n → f a b = true → f b a = true → a = b := by
  rw [Bool.eq_false_iff]
  constructor
  · intro h a b ha hb x y
    apply Classical.byContradiction
    intro e
    apply h
    rw [tws2_iff]
    rcases Nat.lt_or_gt_of_ne e with q | q
    · exact ⟨b, by omega, by omega, tws1_iff.2 ⟨a, by omega, by omega, y, x⟩⟩
    · exact ⟨a, by omega, by omega, tws1_iff.2 ⟨b, by omega, by omega, x, y⟩⟩
  · intro h h2
    obtain ⟨b, _, hb, h3⟩ := tws2_iff.1 h2
    obtain ⟨c, _, hc, x, y⟩ := tws1_iff.1 h3
    have := h b c (by omega) (by omega) x y
    omega
theorem lub_iff {f : Tb} {n a b c : Nat} : lub f n a b c = true ↔ ∀ d, d < n → f a d = true → f b d = true → f c d = true := by
  simp only [lub, List.all_eq_true, List.mem_range]
  constructor
  · intro h d hd x y
    have := h d hd
    simpa [x, y] using this
  · intro h d hd
    cases q1 : f a d with
    | false => simp
    | true =>
      cases q2 : f b d with
      | false => simp
      | true => simp [h d hd q1 q2]
/-- Is a level the least above two? -/
def IsLub (f : Tb) (n a b c : Nat) : Prop := c < n ∧ f a c = true ∧ f b c = true ∧ ∀ d, d < n → f a d = true → f b d = true → f c d = true
theorem ovr_spec {f : Tb} {n a b : Nat} : ∀ {m c : Nat}, c + m = n → (∃ r : Nat, ovr f n a b m c = r ∧ IsLub f n a b r) ∨ (ovr f n a b m c = -1 ∧ ∀ r, c ≤ r → ¬ IsLub f n a b r)
  | 0, c, h => .inr ⟨rfl, fun r hr q => by have := q.1; omega⟩
  | m + 1, c, h => by
    simp only [ovr]
    by_cases q : (f a c && (f b c && lub f n a b c)) = true
    · rw [if_pos q]
      simp only [Bool.and_eq_true, lub_iff] at q
      exact .inl ⟨c, rfl, by omega, q.1, q.2.1, q.2.2⟩
    · rw [if_neg q]
      rcases ovr_spec (f := f) (n := n) (a := a) (b := b) (m := m) (c := c + 1) (by omega) with h1 | ⟨h1, h2⟩
      · exact .inl h1
      · refine .inr ⟨h1, fun r hr hl => ?_⟩
        by_cases e : c = r
        · subst e
          apply q
          simp only [Bool.and_eq_true, lub_iff]
          exact ⟨hl.2.1, hl.2.2.1, hl.2.2.2⟩
        · exact h2 r (by omega) hl

theorem botF_spec {n : Nat} (hn : 1 ≤ n) {R : Nat → Nat → Prop} (rf : ∀ a, a < n → R a a) (tr : ∀ a b c, a < n → b < n → c < n → R a b → R b c → R a c) {M : Ti} (hM : ∀ a b, a < n → b < n → ∃ r : Nat, M a b = r ∧ r < n ∧ R r a ∧ R r b) :
    ∀ (m a b : Nat), a + m = n → b < n → botF M m a b < n ∧ R (botF M m a b) b ∧ ∀ j, a ≤ j → j < n → R (botF M m a b) j
  | 0, a, b, h, hb => ⟨hb, rf b hb, fun j h1 h2 => by omega⟩
  | m + 1, a, b, h, hb => by
    obtain ⟨r, h1, h2, h3, h4⟩ := hM b a hb (by omega)
    have hr : (M b a).toNat = r := by rw [h1]; simp
    simp only [botF, hr]
    obtain ⟨q1, q2, q3⟩ := botF_spec hn rf tr hM m (a + 1) r (by omega) h2
    refine ⟨q1, tr _ _ _ q1 h2 hb q2 h3, fun j hj hjn => ?_⟩
    by_cases e : a = j
    · subst e; exact tr _ _ _ q1 h2 hjn q2 h4
    · exact q3 j (by omega) hjn

def ltR (n : Nat) (g : Tb) : Lt where
  n := n
  leq := g
  join a b := (ovr g n a b n 0).toNat
  meet a b := (ovr (trn g) n a b n 0).toNat
  bot := botF (JT (trn g) n n 0) n 0 0
  top := botF (JT g n n 0) n 0 0
theorem JT_full {f : Tb} {n a b : Nat} (ha : a < n) (hb : b < n) : JT f n n 0 a b = ovr f n a b n 0 := by simp [JT, ha, hb]

structure Nice (n : Nat) (g : Tb) : Prop where
  n1 : 1 ≤ n
  n8 : n ≤ 8
  rf : ∀ a, a < n → g a a = true
  tr : Tr n g
  anti : ∀ a b, a < n → b < n → g a b = true → g b a = true → a = b
  j : ∀ a b, a < n → b < n → ∃ r : Nat, ovr g n a b n 0 = r ∧ IsLub g n a b r
  m : ∀ a b, a < n → b < n → ∃ r : Nat, ovr (trn g) n a b n 0 = r ∧ IsLub (trn g) n a b r
theorem Nice.ok {n : Nat} {g : Tb} (N : Nice n g) : (ltR n g).Ok := by
  have J := fun a b ha hb => N.j a b ha hb
  have M := fun a b ha hb => N.m a b ha hb
  obtain ⟨b1, _, b3⟩ := botF_spec (R := fun a b => g a b = true) N.n1 N.rf (fun a b c ha hb hc => N.tr a b c ha hb hc) (M := JT (trn g) n n 0) (fun a b ha hb => by
    obtain ⟨r, h1, h2⟩ := M a b ha hb
    exact ⟨r, by rw [JT_full ha hb]; exact h1, h2.1, h2.2.1, h2.2.2.1⟩) n 0 0 (by omega) (by have := N.n1; omega)
  obtain ⟨t1, _, t3⟩ := botF_spec (R := fun a b => g b a = true) N.n1 N.rf (fun a b c ha hb hc x y => N.tr c b a hc hb ha y x) (M := JT g n n 0) (fun a b ha hb => by
    obtain ⟨r, h1, h2⟩ := J a b ha hb
    exact ⟨r, by rw [JT_full ha hb]; exact h1, h2.1, h2.2.1, h2.2.2.1⟩) n 0 0 (by omega) (by have := N.n1; omega)
  have JJ : ∀ a b, a < n → b < n → IsLub g n a b ((ltR n g).join a b) := fun a b ha hb => by
    obtain ⟨r, h1, h2⟩ := J a b ha hb
    have : (ltR n g).join a b = r := by show (ovr g n a b n 0).toNat = r; rw [h1]; simp
    rw [this]; exact h2
  have MM : ∀ a b, a < n → b < n → IsLub (trn g) n a b ((ltR n g).meet a b) := fun a b ha hb => by
    obtain ⟨r, h1, h2⟩ := M a b ha hb
    have : (ltR n g).meet a b = r := by show (ovr (trn g) n a b n 0).toNat = r; rw [h1]; simp
    rw [this]; exact h2
  exact ⟨N.n1, N.n8, b1, t1, fun a ha => b3 a (by omega) ha, fun a ha => t3 a (by omega) ha, N.rf, N.anti, N.tr, fun a b ha hb => (JJ a b ha hb).1, fun a b ha hb => (JJ a b ha hb).2.1, fun a b ha hb => (JJ a b ha hb).2.2.1,
    fun a b c ha hb hc x y => (JJ a b ha hb).2.2.2 c hc x y, fun a b ha hb => (MM a b ha hb).1, fun a b ha hb => (MM a b ha hb).2.1, fun a b ha hb => (MM a b ha hb).2.2.1, fun a b c ha hb hc x y => (MM a b ha hb).2.2.2 c hc x y⟩
theorem nice_of {names : List ByteArray} {pairs : List (Int × Int)} {g : Tb} (hc : Clo names.length (layP (diag names.length) pairs) g) (h : newC names pairs g = 0) : Nice names.length g := by
  unfold newC at h
  split at h
  · cases h
  · rename_i q0
    split at h
    · cases h
    · split at h
      · cases h
      · rename_i q2
        split at h
        · cases h
        · rename_i q3
          obtain ⟨n1, n8⟩ := named_len q0
          have F := fillB_iff.1 q3
          refine ⟨n1, n8, fun a ha => hc.le a a (layP_iff.2 (.inl (by simp [diag, ha]))), hc.tr, tws_anti.1 q2, fun a b ha hb => ?_, fun a b ha hb => ?_⟩
          · rcases ovr_spec (f := g) (n := names.length) (a := a) (b := b) (m := names.length) (c := 0) (by omega) with h1 | ⟨h1, _⟩
            · exact h1
            · have := (F a b ha hb).1; omega
          · rcases ovr_spec (f := trn g) (n := names.length) (a := a) (b := b) (m := names.length) (c := 0) (by omega) with h1 | ⟨h1, _⟩
            · exact h1
            · have := (F a b ha hb).2; omega
theorem latR_is {names : List ByteArray} {g : Tb} (N : Nice names.length g) : IsLat (latR names g) (ltR names.length g) := by
  have n8 := N.n8
  refine ⟨by simp [latR], by rw [latR, latE_0]; rfl, by rw [latR, latE_0]; simp [ltR], fun a b ha hb => ?_, fun a b ha hb => ?_, fun a b ha hb => ?_, by rw [latR, latE_b]; rfl, by rw [latR, latE_t]; rfl, N.ok⟩
  · have ha : a < names.length := ha
    have hb : b < names.length := hb
    rw [Nat.mul_one, latR, latE_l _ _ _ _ _ _ (by omega) (by omega)]; rfl
  · have ha : a < names.length := ha
    have hb : b < names.length := hb
    obtain ⟨r, h1, h2⟩ := N.j a b ha hb
    rw [Nat.mul_one, latR, latE_J _ _ _ _ _ _ (by omega) (by omega), JT_full ha hb]
    show _ = FV.int .i64 ((ovr g names.length a b names.length 0).toNat : Nat)
    rw [h1]; simp
  · have ha : a < names.length := ha
    have hb : b < names.length := hb
    obtain ⟨r, h1, h2⟩ := N.m a b ha hb
    rw [Nat.mul_one, latR, latE_M _ _ _ _ _ _ (by omega) (by omega), JT_full ha hb]
    show _ = FV.int .i64 ((ovr (trn g) names.length a b names.length 0).toNat : Nat)
    rw [h1]; simp
end Go.Ab
