/- A lattice is filled. -/
import Derived.Test.YtdpfpdejipkffaaSLev2
namespace Go.Ab
set_option linter.unusedVariables false
set_option linter.unusedSimpArgs false

abbrev Ti := Nat → Nat → Int
def updI (f : Ti) (a b : Nat) (v : Int) : Ti := fun x y => if x = a ∧ y = b then v else f x y
def latC (nm : List FV) (f : Tb) (J M : Ti) (b t : Int) (i : Nat) : FV :=
  if i = 0 then .sl nm else if i < 65 then .bool (f ((i - 1) / 8) ((i - 1) % 8)) else if i < 129 then .int .i64 (J ((i - 65) / 8) ((i - 65) % 8)) else
  if i < 193 then .int .i64 (M ((i - 129) / 8) ((i - 129) % 8)) else if i = 193 then .int .i64 b else .int .i64 t
def latE (nm : List FV) (f : Tb) (J M : Ti) (b t : Int) : FV := .ag ((List.range 195).map (latC nm f J M b t))

section
variable (nm : List FV) (f : Tb) (J M : Ti) (b t : Int)
@[simp] theorem latE_ag : FV.isAg 195 (latE nm f J M b t) = true := by simp [latE]
theorem latE_cell {i : Nat} (h : i < 195) : FV.cell (latE nm f J M b t) i = latC nm f J M b t i := by simp [latE, h]
theorem latE_0 : FV.cell (latE nm f J M b t) 0 = .sl nm := by rw [latE_cell _ _ _ _ _ _ (by omega)]; rfl
theorem latE_l {x y : Nat} (hx : x < 8) (hy : y < 8) : FV.cell (latE nm f J M b t) (1 + x * 8 + y) = .bool (f x y) := by
  rw [latE_cell _ _ _ _ _ _ (by omega)]
  unfold latC
  rw [if_neg (by omega), if_pos (by omega), show (1 + x * 8 + y - 1) / 8 = x by omega, show (1 + x * 8 + y - 1) % 8 = y by omega]
theorem latE_J {x y : Nat} (hx : x < 8) (hy : y < 8) : FV.cell (latE nm f J M b t) (65 + x * 8 + y) = .int .i64 (J x y) := by
  rw [latE_cell _ _ _ _ _ _ (by omega)]
  unfold latC
  rw [if_neg (by omega), if_neg (by omega), if_pos (by omega), show (65 + x * 8 + y - 65) / 8 = x by omega, show (65 + x * 8 + y - 65) % 8 = y by omega]
theorem latE_M {x y : Nat} (hx : x < 8) (hy : y < 8) : FV.cell (latE nm f J M b t) (129 + x * 8 + y) = .int .i64 (M x y) := by
  rw [latE_cell _ _ _ _ _ _ (by omega)]
  unfold latC
  rw [if_neg (by omega), if_neg (by omega), if_neg (by omega), if_pos (by omega), show (129 + x * 8 + y - 129) / 8 = x by omega, show (129 + x * 8 + y - 129) % 8 = y by omega]
theorem latE_b : FV.cell (latE nm f J M b t) 193 = .int .i64 b := by rw [latE_cell _ _ _ _ _ _ (by omega)]; rfl
theorem latE_t : FV.cell (latE nm f J M b t) 194 = .int .i64 t := by rw [latE_cell _ _ _ _ _ _ (by omega)]; rfl
theorem latE_leq : FV.ag (List.map (fun j => FV.cell (latE nm f J M b t) (1 + j)) (List.range 64)) = bT f := by
  unfold bT
  congr 1
theorem latE_set {i : Nat} {v : FV} (hi : i < 195) {J' M' : Ti} {b' t' : Int} (h : ∀ j, j < 195 → latC nm f J' M' b' t' j = if i = j then v else latC nm f J M b t j) :
    FV.ag (List.set (FV.toAg (latE nm f J M b t)) i v) = latE nm f J' M' b' t' := by
  unfold latE
  simp only [toAg_ag]
  congr 1
  apply List.ext_getElem (by simp)
  intro j h1 h2
  have hj : j < 195 := by simpa using h2
  rw [List.getElem_set]
  simp only [List.getElem_map, List.getElem_range]
  exact (h j hj).symm
theorem latE_setJ {x y : Nat} (hx : x < 8) (hy : y < 8) (v : Int) : FV.ag (List.set (FV.toAg (latE nm f J M b t)) (65 + x * 8 + y) (.int .i64 v)) = latE nm f (updI J x y v) M b t := by
  refine latE_set nm f J M b t (by omega) fun j hj => ?_
  unfold latC
  by_cases h0 : j = 0
  · rw [if_pos h0, if_pos h0, if_neg (by omega)]
  rw [if_neg h0, if_neg h0]
  by_cases h1 : j < 65
  · rw [if_pos h1, if_pos h1, if_neg (by omega)]
  rw [if_neg h1, if_neg h1]
  by_cases h2 : j < 129
  · rw [if_pos h2, if_pos h2]
    unfold updI
    by_cases e : 65 + x * 8 + y = j
    · rw [if_pos e, if_pos (by omega)]
    · rw [if_neg e, if_neg (by omega)]
  rw [if_neg h2, if_neg h2, if_neg (show ¬ 65 + x * 8 + y = j by omega)]
theorem latE_setM {x y : Nat} (hx : x < 8) (hy : y < 8) (v : Int) : FV.ag (List.set (FV.toAg (latE nm f J M b t)) (129 + x * 8 + y) (.int .i64 v)) = latE nm f J (updI M x y v) b t := by
  refine latE_set nm f J M b t (by omega) fun j hj => ?_
  unfold latC
  by_cases h0 : j = 0
  · rw [if_pos h0, if_pos h0, if_neg (by omega)]
  rw [if_neg h0, if_neg h0]
  by_cases h1 : j < 65
  · rw [if_pos h1, if_pos h1, if_neg (by omega)]
  rw [if_neg h1, if_neg h1]
  by_cases h2 : j < 129
  · rw [if_pos h2, if_pos h2, if_neg (by omega)]
  rw [if_neg h2, if_neg h2]
  by_cases h3 : j < 193
  · rw [if_pos h3, if_pos h3]
    unfold updI
    by_cases e : 129 + x * 8 + y = j
    · rw [if_pos e, if_pos (by omega)]
    · rw [if_neg e, if_neg (by omega)]
  rw [if_neg h3, if_neg h3, if_neg (show ¬ 129 + x * 8 + y = j by omega)]
theorem latE_setb (v : Int) : FV.ag (List.set (FV.toAg (latE nm f J M b t)) 193 (.int .i64 v)) = latE nm f J M v t := by
  refine latE_set nm f J M b t (by omega) fun j hj => ?_
  unfold latC
  by_cases h0 : j = 193
  · subst h0; rfl
  · rw [if_neg (show ¬ 193 = j by omega), if_neg h0, if_neg h0]
theorem latE_sett (v : Int) : FV.ag (List.set (FV.toAg (latE nm f J M b t)) 194 (.int .i64 v)) = latE nm f J M b v := by
  refine latE_set nm f J M b t (by omega) fun j hj => ?_
  unfold latC
  by_cases h0 : j = 194
  · subst h0; rfl
  · rw [if_neg (show ¬ 194 = j by omega)]
    by_cases h1 : j = 193
    · subst h1; rfl
    · rw [if_pos (show j < 193 by omega), if_pos (show j < 193 by omega)]
end

def trn (f : Tb) : Tb := fun a b => f b a
def JT (f : Tb) (n a b : Nat) : Ti := fun x y => if (x < a ∧ y < n) ∨ (x = a ∧ y < b) then ovr f n x y n 0 else 0
theorem JT_upd (f : Tb) (n a b : Nat) : updI (JT f n a b) a b (ovr f n a b n 0) = JT f n a (b + 1) := by
  funext x y
  unfold updI JT
  by_cases e : x = a ∧ y = b
  · rw [if_pos e, if_pos (by omega), e.1, e.2]
  · rw [if_neg e]
    by_cases h : (x < a ∧ y < n) ∨ (x = a ∧ y < b)
    · rw [if_pos h, if_pos (by omega)]
    · rw [if_neg h, if_neg (by omega)]
theorem JT_next (f : Tb) (n a : Nat) : JT f n a n = JT f n (a + 1) 0 := by
  funext x y
  unfold JT
  by_cases h : (x < a ∧ y < n) ∨ (x = a ∧ y < n)
  · rw [if_pos h, if_pos (by omega)]
  · rw [if_neg h, if_neg (by omega)]
def okAB (f : Tb) (n a b : Nat) : Bool := !decide (ovr f n a b n 0 < 0) && !decide (ovr (trn f) n a b n 0 < 0)
theorem ovr_range (f : Tb) (n a b : Nat) : ∀ m c, c + m = n → ovr f n a b m c = -1 ∨ ((0 : Int) ≤ ovr f n a b m c ∧ ovr f n a b m c < n)
  | 0, c, _ => .inl rfl
  | m + 1, c, h => by
    simp only [ovr]
    split
    · right; constructor <;> omega
    · exact ovr_range f n a b m (c + 1) (by omega)
theorem lt195J {x y : Nat} (hx : x < 8) (hy : y < 8) : Nat.blt (65 + x * 8 + y) 195 = true := by rw [Nat.blt_eq]; omega
theorem lt195M {x y : Nat} (hx : x < 8) (hy : y < 8) : Nat.blt (129 + x * 8 + y) 195 = true := by rw [Nat.blt_eq]; omega

theorem fill1 {a n K : Nat} (ha : a < 8) (hn : n ≤ 8) (nm : List FV) (f : Tb) (x14 x15 : Int) : ∀ (m b N : Nat), b + m = n → m < N →
    ∃ e', L_level_Lattice_fill_1_0 Rt K true N n a x14 x15 n b (latE nm f (JT f n a b) (JT (trn f) n a b) 0 0) (bT (trn f)) =
      some (match allI (okAB f n a) m b with
        | true => (.exit 2, X_level_Lattice_fill_1_1 n x14 x15 (latE nm f (JT f n a n) (JT (trn f) n a n) 0 0) (bT (trn f)))
        | false => (.ret, X_level_Lattice_fill_1_0 n false x14 x15 e' (bT (trn f))))
  | m, b, 0, _, h => by omega
  | 0, b, N + 1, h, _ => by
    rw [L_level_Lattice_fill_1_0_eq]
    obtain rfl : b = n := by omega
    exact ⟨.nilp, by simp [allI]⟩
  | m + 1, b, N + 1, h, hN => by
    have hb : b < 8 := by omega
    obtain ⟨e', ih⟩ := fill1 (K := K) ha hn nm f x14 x15 m (b + 1) N (by omega) (by omega)
    have hlt : decide ((b : Int) < (n : Int)) = true := by simp; omega
    have h00 : decide ((0 : Int) ≤ (b : Int)) = true := by simp
    refine ⟨if okAB f n a b = true then e' else (latE nm f (JT f n a (b + 1)) (JT (trn f) n a (b + 1)) 0 0), ?_⟩
    rw [L_level_Lattice_fill_1_0_eq]
    have o1 := over_ok ha hb hn f
    have o2 := over_ok ha hb hn (trn f)
    have g1 : updI (JT f n a b) a b (ovr f n a b n 0) a b = ovr f n a b n 0 := by simp [updI]
    simp only [hlt, ifB_true, latE_ag, when_true', latE_leq, o1, o2, onR_some, List.isEmpty_nil, allF_cons, allF_nil, Bool.and_true, Bool.true_and, List.getD_cons_zero, toF_fz, isInt_int, toInt_int, lt8 ha, lt8 hb, Int.toNat_natCast, Nat.mul_one, lt195J ha hb, lt195M ha hb, latE_setJ _ _ _ _ _ _ ha hb, latE_setM _ _ _ _ _ _ ha hb, latE_J _ _ _ _ _ _ ha hb, latE_M _ _ _ _ _ _ ha hb, JT_upd, wrn (show b < 1152921504606846976 by omega), ih, allI]
    have q1 : JT f n a (b + 1) a b = ovr f n a b n 0 := by simp [JT]
    have q2 : JT (trn f) n a (b + 1) a b = ovr (trn f) n a b n 0 := by simp [JT]
    rw [q1, q2]
    unfold okAB
    cases d1 : decide (ovr f n a b n 0 < 0) <;> cases d2 : decide (ovr (trn f) n a b n 0 < 0) <;> simp only [ifB_true, ifB_false, Bool.not_true, Bool.not_false, Bool.true_and, Bool.false_and, Bool.and_false, Bool.and_true, if_true, Bool.false_eq_true, if_false]

def botF (M : Ti) : Nat → Nat → Nat → Nat
  | 0, _, b => b
  | m + 1, a, b => botF M m (a + 1) (M b a).toNat

theorem fill3 {n K : Nat} (hn : n ≤ 8) (nm : List FV) (f : Tb) (J M : Ti) (hJ : ∀ a b, a < n → b < n → 0 ≤ J a b ∧ J a b < n) (hM : ∀ a b, a < n → b < n → 0 ≤ M a b ∧ M a b < n) : ∀ (m a N b t : Nat), b < n → t < n → a + m = n → m < N →
    L_level_Lattice_fill_3_0 Rt K true N n a (latE nm f J M b t) = some (.exit 4, X_level_Lattice_fill_3_0 (latE nm f J M (botF M m a b) (botF J m a t)))
  | m, b, 0, _, _, _, _, _, h => by omega
  | 0, a, N + 1, b, t, hb, ht, h, _ => by
    rw [L_level_Lattice_fill_3_0_eq]
    obtain rfl : a = n := by omega
    simp [botF]
  | m + 1, a, N + 1, b, t, hb, ht, h, hN => by
    have ha : a < 8 := by omega
    have hb8 : b < 8 := by omega
    have ht8 : t < 8 := by omega
    obtain ⟨m1, m2⟩ := hM b a hb (by omega)
    obtain ⟨j1, j2⟩ := hJ t a ht (by omega)
    have ih := fill3 (K := K) hn nm f J M hJ hM m (a + 1) N (M b a).toNat (J t a).toNat (by omega) (by omega) (by omega) (by omega)
    rw [Int.toNat_of_nonneg m1, Int.toNat_of_nonneg j1] at ih
    have hlt : decide ((a : Int) < (n : Int)) = true := by simp; omega
    rw [L_level_Lattice_fill_3_0_eq]
    simp only [hlt, ifB_true, latE_ag, when_true', latE_b, latE_t, isInt_int, toInt_int, lt8 ha, lt8 hb8, lt8 ht8, Int.toNat_natCast, Nat.mul_one, lt195J ht8 ha, lt195M hb8 ha, latE_M _ _ _ _ _ _ hb8 ha, latE_J _ _ _ _ _ _ ht8 ha, latE_setb, latE_sett, Bool.and_true, wrn (show a < 1152921504606846976 by omega), ih, botF]

def fillB (f : Tb) (n : Nat) : Bool := allI (fun a => allI (okAB f n a) n 0) n 0
theorem fillB_iff {f : Tb} {n : Nat} : fillB f n = true ↔ ∀ a b, a < n → b < n → 0 ≤ ovr f n a b n 0 ∧ 0 ≤ ovr (trn f) n a b n 0 := by
  unfold fillB
  rw [allI_iff]
  constructor
  · intro h a b ha hb
    have h1 := h a (by omega) (by omega)
    rw [allI_iff] at h1
    have h2 := h1 b (by omega) (by omega)
    simp [okAB] at h2
    omega
  · intro h a _ ha
    rw [allI_iff]
    intro b _ hb
    have := h a b (by omega) (by omega)
    simp [okAB]; omega
theorem fill2 {n K : Nat} (hn : n ≤ 8) (hK : 9 < K) (h1 : 1 ≤ n) (nm : List FV) (f : Tb) : ∀ (m a N : Nat), a + m = n → (∀ x y, x < a → y < n → okAB f n x y = true) → m < N →
    ∃ e', onL (L_level_Lattice_fill_2_0 Rt K true N n n a (latE nm f (JT f n a 0) (JT (trn f) n a 0) 0 0) (bT (trn f))) (K_level_Lattice_fill_2 Rt K true) =
      some ([.fz (.bool (allI (fun a => allI (okAB f n a) n 0) m a))], [.fz e']) ∧ (allI (fun a => allI (okAB f n a) n 0) m a = true → e' = latE nm f (JT f n n 0) (JT (trn f) n n 0) (botF (JT (trn f) n n 0) n 0 0) (botF (JT f n n 0) n 0 0))
  | m, b, 0, _, _, h => by omega
  | 0, a, N + 1, h, hok, _ => by
    obtain rfl : a = n := by omega
    have hR : ∀ g : Tb, (∀ x y, x < a → y < a → 0 ≤ ovr g a x y a 0) → ∀ x y, x < a → y < a → 0 ≤ JT g a a 0 x y ∧ JT g a a 0 x y < a := fun g hg x y hx hy => by
      have : JT g a a 0 x y = ovr g a x y a 0 := by simp [JT, hx, hy]
      rw [this]
      have := hg x y hx hy
      rcases ovr_range g a x y a 0 (by omega) with h | h <;> omega
    have f3 := fill3 (K := K) hn nm f (JT f a a 0) (JT (trn f) a a 0) (hR f fun x y hx hy => by have := hok x y hx hy; simp [okAB] at this; omega) (hR (trn f) fun x y hx hy => by have := hok x y hx hy; simp [okAB] at this; omega) a 0 K 0 0 (by omega) (by omega) (by omega) (by omega)
    simp only [Int.natCast_zero] at f3
    refine ⟨_, ?_, fun _ => rfl⟩
    rw [L_level_Lattice_fill_2_0_eq]
    simp only [show decide ((a : Int) < (a : Int)) = false by simp, ifB_false, onL_some, X_level_Lattice_fill_2_0_eq, f3, X_level_Lattice_fill_3_0_eq, allI]
  | m + 1, a, N + 1, h, hok, hN => by
    have ha : a < 8 := by omega
    have hlt : decide ((a : Int) < (n : Int)) = true := by simp; omega
    obtain ⟨e1, f1⟩ := fill1 (K := K) ha hn nm f n a n 0 K (by omega) (by omega)
    simp only [Int.natCast_zero] at f1
    rw [L_level_Lattice_fill_2_0_eq]
    simp only [hlt, ifB_true, f1, allI]
    cases q : allI (okAB f n a) n 0 with
    | false =>
      refine ⟨e1, ?_, by simp⟩
      simp only [onL_some, X_level_Lattice_fill_1_0_eq, X_level_Lattice_fill_2_1_eq, Bool.false_and]
    | true =>
      obtain ⟨e', h2, h3⟩ := fill2 (K := K) hn hK h1 nm f m (a + 1) N (by omega) (fun x y hx hy => by
        by_cases e : x = a
        · subst e; exact allI_iff.1 q y (by omega) (by omega)
        · exact hok x y (by omega) hy) (by omega)
      refine ⟨e', ?_, by simpa using h3⟩
      rw [JT_next, JT_next]
      simp only [onL_some, X_level_Lattice_fill_1_1_eq, wrn (show a < 1152921504606846976 by omega), h2, Bool.true_and]

theorem fill_ok {n : Nat} (hn : n ≤ 8) (h1 : 1 ≤ n) (nm : List FV) (f : Tb) : ∃ e', Rt N_level_Lattice_fill [.pv 195 true (.fz (latE nm f (fun _ _ => 0) (fun _ _ => 0) 0 0)), .fz (.int .i64 n)] = some ([.fz (.bool (fillB f n))], [.fz e']) ∧
    (fillB f n = true → e' = latE nm f (JT f n n 0) (JT (trn f) n n 0) (botF (JT (trn f) n n 0) n 0 0) (botF (JT f n n 0) n 0 0)) := by
  have h0 : ∀ g : Tb, JT g n 0 0 = fun _ _ => 0 := fun g => by funext x y; simp [JT]
  obtain ⟨e', h2, h3⟩ := fill2 (K := 12) hn (by omega) h1 nm f n 0 12 (by omega) (fun x y hx => by omega) (by omega)
  rw [h0, h0] at h2
  simp only [Int.natCast_zero] at h2
  refine ⟨e', ?_, h3⟩
  refine rt_call A_level_Lattice_fill rfl rfl 12 ?_
  have ht : Rt N_level_turned [.fz (bT f)] = some ([.fz (bT (trn f))], []) := turned_ok f
  rw [E_level_Lattice_fill, latE_ag, when_true', latE_leq, ht]
  simp only [onR_some, List.isEmpty_nil, allF_cons, allF_nil, Bool.and_true, when_true', List.getD_cons_zero, toF_fz, bT_fits, h2]
  rfl
end Go.Ab
