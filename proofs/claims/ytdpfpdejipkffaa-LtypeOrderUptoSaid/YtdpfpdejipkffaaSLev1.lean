/- Tables are closed, turned about, asked for the least above two, and for twists. -/
import Derived.Test.YtdpfpdejipkffaaSLev0
namespace Go.Ab
set_option linter.unusedVariables false
set_option linter.unusedSimpArgs false

theorem wrn {c : Nat} (h : c < 1152921504606846976) : IntKind.wrap .i64 ((c : Int) + 1) = ((c + 1 : Nat) : Int) := by
  rw [wrap64 (by omega) (by omega)]; simp
theorem lt8 {a : Nat} (h : a < 8) : (decide ((0 : Int) ≤ (a : Int)) && decide ((a : Int) < 8)) = true := by simp; omega

theorem closed1 {a b n K : Nat} (ha : a < 8) (hb : b < 8) (hn : n ≤ 8) (x10 x11 x14 x15 : Int) (y z : FV) : ∀ (m c N : Nat) (f : Tb), c + m = n → m < N →
    L_level_closed_1_0 Rt K true N n a b x10 x11 x14 x15 n c (bT f) y z = some (.exit 6, X_level_closed_1_0 n a x10 x11 x14 x15 (bT ((tri a b c m).foldl stp f)) y z)
  | m, c, 0, f, _, h => by omega
  | 0, c, N + 1, f, h, _ => by
    rw [L_level_closed_1_0_eq]
    simp [show ¬ ((c : Int) < (n : Int)) by omega, tri]
  | m + 1, c, N + 1, f, h, hN => by
    have hc : c < 8 := by omega
    have ih := fun g => closed1 (K := K) ha hb hn x10 x11 x14 x15 y z m (c + 1) N g (by omega) (by omega)
    have ht : tri a b c (m + 1) = (a, b, c) :: tri a b (c + 1) m := by simp [tri, List.range'_succ]
    rw [L_level_closed_1_0_eq, ht]
    have hlt : decide ((c : Int) < (n : Int)) = true := by simp; omega
    have e1 := bT_cell f ha hc
    have e2 := bT_cell f ha hb
    have e3 := bT_cell f hb hc
    have s1 := bT_set f ha hc
    simp only [hlt, ifB_true, lt8 ha, lt8 hb, lt8 hc, when_true', bT_ag, Int.toNat_natCast, Nat.zero_add, Nat.mul_one, bl64 ha hc, bl64 ha hb, bl64 hb hc, e1, e2, e3, s1, isBool_bool, toBool_bool, Bool.and_true, wrn (show c < 1152921504606846976 by omega), ih, List.foldl_cons]
    have hs : stp f (a, b, c) = upd2 f a c (f a c || (f a b && f b c)) := rfl
    rw [hs]
    cases h1 : f a c with
    | true => simp only [ifB_true, Bool.true_or]
    | false =>
      cases h2 : f a b with
      | true => simp only [ifB_true, ifB_false, Bool.false_or, Bool.true_and]
      | false => simp only [ifB_false, Bool.false_or, Bool.false_and]

theorem closed2 {a n K : Nat} (ha : a < 8) (hn : n ≤ 8) (hK : 8 < K) (x10 x11 : Int) (y z : FV) : ∀ (m b N : Nat) (f : Tb), b + m = n → m < N →
    L_level_closed_2_0 Rt K true N n a x10 x11 n b (bT f) y z = some (.exit 4, X_level_closed_2_0 n x10 x11 (bT ((tri2 n a b m).foldl stp f)) y z)
  | m, b, 0, f, _, h => by omega
  | 0, b, N + 1, f, h, _ => by
    rw [L_level_closed_2_0_eq]
    simp [show ¬ ((b : Int) < (n : Int)) by omega, tri2]
  | m + 1, b, N + 1, f, h, hN => by
    have hb : b < 8 := by omega
    have ih := fun g => closed2 ha hn hK x10 x11 y z m (b + 1) N g (by omega) (by omega)
    have ht : tri2 n a b (m + 1) = tri a b 0 n ++ tri2 n a (b + 1) m := by simp [tri2, List.range'_succ]
    rw [L_level_closed_2_0_eq, ht]
    have hlt : decide ((b : Int) < (n : Int)) = true := by simp; omega
    have h1 := closed1 (K := K) ha hb hn x10 x11 n b y z n 0 K f (by omega) (by omega)
    simp only [Int.natCast_zero] at h1
    simp only [hlt, ifB_true, h1, onL_some, X_level_closed_1_0_eq, wrn (show b < 1152921504606846976 by omega), ih, List.foldl_append]

theorem closed3 {n K : Nat} (hn : n ≤ 8) (hK : 8 < K) (y z : FV) : ∀ (m a N : Nat) (f : Tb), a + m = n → m < N →
    L_level_closed_3_0 Rt K true N n n a (bT f) y z = some (.exit 2, X_level_closed_3_0 n (bT ((tri3 n a m).foldl stp f)) y z)
  | m, b, 0, f, _, h => by omega
  | 0, a, N + 1, f, h, _ => by
    rw [L_level_closed_3_0_eq]
    simp [show ¬ ((a : Int) < (n : Int)) by omega, tri3]
  | m + 1, a, N + 1, f, h, hN => by
    have ha : a < 8 := by omega
    have ih := fun g => closed3 hn hK y z m (a + 1) N g (by omega) (by omega)
    have ht : tri3 n a (m + 1) = tri2 n a 0 n ++ tri3 n (a + 1) m := by simp [tri3, List.range'_succ]
    rw [L_level_closed_3_0_eq, ht]
    have hlt : decide ((a : Int) < (n : Int)) = true := by simp; omega
    have h1 := closed2 (K := K) ha hn hK n a y z n 0 K f (by omega) (by omega)
    simp only [Int.natCast_zero] at h1
    simp only [hlt, ifB_true, h1, onL_some, X_level_closed_2_0_eq, wrn (show a < 1152921504606846976 by omega), ih, List.foldl_append]

theorem pass_clo {n : Nat} (hn : n ≤ 8) {f0 f : Tb} (h1 : Le f0 f) (h2 : ∀ h, Le f0 h → Tr n h → Le f h) (hA : Ag8 (pass n f) f) : Clo n f0 f := by
  refine ⟨h1, fun a b c ha hb hc x y => ?_, h2⟩
  exact fold_fix (tri3 n 0 n) f (fun t ht => by have := tri3_mem.1 ht; omega) hA (a, b, c) (tri3_mem.2 ⟨ha, hb, hc⟩) x y

theorem closed4 {n K : Nat} (hn : n ≤ 8) (hK : 8 < K) (y : FV) {f0 : Tb} : ∀ (N : Nat) (f : Tb), 65 ≤ N + cnt f → Le f0 f → (∀ h, Le f0 h → Tr n h → Le f h) →
    ∃ g, Clo n f0 g ∧ L_level_closed_4_0 Rt K true N n (bT f) y = some (.ret, X_level_closed_4_0 (bT g))
  | 0, f, h, _, _ => by have := cnt_le f; omega
  | N + 1, f, h, h1, h2 => by
    rw [L_level_closed_4_0_eq]
    have c3 := closed3 (K := K) hn hK y (bT f) n 0 K f (by omega) (by omega)
    simp only [Int.natCast_zero] at c3
    have hle : Le f (pass n f) := fold_le _ _
    simp only [bT_fits, when_true', c3, onL_some, X_level_closed_3_0_eq, bT_ag, Bool.and_true]
    show ∃ g, Clo n f0 g ∧ when (eksOk _ (FV.toAg (bT (pass n f))) && eksOk _ (FV.toAg (bT f))) (ifB (eksEq _ (FV.toAg (bT (pass n f))) (FV.toAg (bT f))) (when (FV.fits 64 true (bT (pass n f))) (some (.ret, X_level_closed_4_0 (bT (pass n f))))) (L_level_closed_4_0 Rt K true N n (bT (pass n f)) y)) = _
    rw [eks_bT _ f, eks_bT _ f]
    simp only [Bool.and_true, when_true', bT_fits]
    cases hq : eksEq (List.replicate 64 .bool) (FV.toAg (bT (pass n f))) (FV.toAg (bT f)) with
    | true =>
      have hA := (eksEq_bT _ _).1 hq
      refine ⟨f, pass_clo hn h1 h2 hA, ?_⟩
      rw [ifB_true, bT_eq hA]
    | false =>
      rw [ifB_false]
      have hA : ¬ Ag8 (pass n f) f := fun h => by rw [(eksEq_bT _ _).2 h] at hq; cases hq
      have := cnt_lt hle hA
      exact closed4 hn hK y N (pass n f) (by omega) (h1.trans hle) (fun h q t => fold_least t _ f (fun x hx => tri3_mem.1 hx) (h2 h q t))

theorem closed_ok {n : Nat} (hn : n ≤ 8) (f : Tb) : ∃ g, Clo n f g ∧ Rt N_level_closed [.fz (bT f), .fz (.int .i64 n)] = some ([.fz (bT g)], []) := by
  obtain ⟨g, hg, h⟩ := closed4 (K := 70) hn (by omega) (bT zT) (f0 := f) 70 f (by omega) (Le.refl f) (fun h q _ => q)
  refine ⟨g, hg, ?_⟩
  refine rt_call A_level_closed rfl rfl 70 ?_
  rw [E_level_closed]
  have hz := z64
  rw [hz, bT_fits, when_true', h, onL_some, X_level_closed_4_0_eq]

/-! Turned about. -/
def trnTo (f : Tb) (r : Nat) : Tb := fun x y => if y * 8 + x < r then f y x else false
theorem trnTo_set (f : Tb) {a b : Nat} (ha : a < 8) (hb : b < 8) : Ag8 (upd2 (trnTo f (a * 8 + b)) b a (f a b)) (trnTo f (a * 8 + (b + 1))) := fun x y hx hy => by
  unfold upd2 trnTo
  by_cases e : x = b ∧ y = a
  · rw [if_pos e, if_pos (by omega), e.1, e.2]
  · rw [if_neg e]
    by_cases h : y * 8 + x < a * 8 + b
    · rw [if_pos h, if_pos (by omega)]
    · rw [if_neg h, if_neg (by omega)]

theorem turned1 {a K : Nat} (ha : a < 8) (f : Tb) (x6 : Int) (y : FV) : ∀ (m b N : Nat), b + m = 8 → m < N →
    L_level_turned_1_0 Rt K true N a x6 b (bT f) y (bT (trnTo f (a * 8 + b))) = some (.exit 2, X_level_turned_1_0 x6 (bT f) y (bT (trnTo f (a * 8 + 8))))
  | m, b, 0, _, h => by omega
  | 0, b, N + 1, h, _ => by
    rw [L_level_turned_1_0_eq]
    obtain rfl : b = 8 := by omega
    simp
  | m + 1, b, N + 1, h, hN => by
    have hb : b < 8 := by omega
    have ih := turned1 (K := K) ha f x6 y m (b + 1) N (by omega) (by omega)
    rw [L_level_turned_1_0_eq]
    have hlt : decide ((b : Int) < 8) = true := by simp; omega
    have h00 : decide ((0 : Int) ≤ (b : Int)) = true := by simp
    simp only [hlt, h00, ifB_true, lt8 ha, lt8 hb, when_true', bT_ag, Int.toNat_natCast, Nat.zero_add, Nat.mul_one, bl64 ha hb, bl64 hb ha, bT_cell f ha hb, bT_set _ hb ha, isBool_bool, toBool_bool, Bool.and_true, wrn (show b < 1152921504606846976 by omega), bT_eq (trnTo_set f ha hb), ih]
theorem turned2 {K : Nat} (hK : 9 < K) (f : Tb) (y : FV) : ∀ (m a N : Nat), a + m = 8 → m < N →
    L_level_turned_2_0 Rt K true N a (bT f) y (bT (trnTo f (a * 8))) = some (.exit 0, X_level_turned_2_0 y (bT (trnTo f 64)))
  | m, b, 0, _, h => by omega
  | 0, a, N + 1, h, _ => by
    rw [L_level_turned_2_0_eq]
    obtain rfl : a = 8 := by omega
    simp
  | m + 1, a, N + 1, h, hN => by
    have ha : a < 8 := by omega
    have ih := turned2 (K := K) hK f y m (a + 1) N (by omega) (by omega)
    rw [L_level_turned_2_0_eq]
    have hlt : decide ((a : Int) < 8) = true := by simp; omega
    have h1 := turned1 (K := K) ha f a y 8 0 K (by omega) (by omega)
    simp only [Int.natCast_zero, Nat.add_zero] at h1
    rw [show (a + 1) * 8 = a * 8 + 8 by omega] at ih
    simp only [hlt, ifB_true, h1, onL_some, X_level_turned_1_0_eq, wrn (show a < 1152921504606846976 by omega), ih]
theorem turned_ok (f : Tb) : Rt N_level_turned [.fz (bT f)] = some ([.fz (bT fun a b => f b a)], []) := by
  refine rt_call A_level_turned rfl rfl 12 ?_
  rw [E_level_turned]
  have ht : bT zT = bT (trnTo f 0) := bT_eq (fun a b _ _ => by simp [trnTo, zT])
  have hz := z64.trans ht
  have h2 := turned2 (K := 12) (by omega) f (bT (trnTo f 0)) 8 0 12 (by omega) (by omega)
  simp only [Int.natCast_zero, Nat.zero_mul] at h2
  rw [hz, bT_fits, when_true', h2, onL_some, X_level_turned_2_0_eq, bT_fits, when_true']
  have : bT (trnTo f 64) = bT (fun a b => f b a) := bT_eq (fun a b ha hb => by unfold trnTo; rw [if_pos (by omega)])
  rw [this]

/-! The least above two. -/
def lub (f : Tb) (n a b c : Nat) : Bool := (List.range n).all fun d => !f a d || (!f b d || f c d)
def ovr (f : Tb) (n a b : Nat) : Nat → Nat → Int
  | 0, _ => -1
  | m + 1, c => if f a c && (f b c && lub f n a b c) then c else ovr f n a b m (c + 1)
def lubTo (f : Tb) (a b c d : Nat) : Bool := (List.range d).all fun d => !f a d || (!f b d || f c d)
theorem lubTo_succ (f : Tb) (a b c d : Nat) : lubTo f a b c (d + 1) = (lubTo f a b c d && (!f a d || (!f b d || f c d))) := by
  simp [lubTo, List.range_succ, List.all_append]
theorem over1 {a b c n K : Nat} (ha : a < 8) (hb : b < 8) (hc : c < 8) (hn : n ≤ 8) (f : Tb) (x12 x13 : Int) : ∀ (m d N : Nat), d + m = n → m < N →
    L_level_over_1_0 Rt K true N n a b c (lubTo f a b c d) x12 x13 n d (bT f) = some (.exit 2, X_level_over_1_0 n a b c (lub f n a b c) x12 x13 (bT f))
  | m, b, 0, _, h => by omega
  | 0, d, N + 1, h, _ => by
    rw [L_level_over_1_0_eq]
    obtain rfl : d = n := by omega
    simp [lubTo, lub]
  | m + 1, d, N + 1, h, hN => by
    have hd : d < 8 := by omega
    have ih := over1 (K := K) ha hb hc hn f x12 x13 m (d + 1) N (by omega) (by omega)
    rw [L_level_over_1_0_eq]
    have hlt : decide ((d : Int) < (n : Int)) = true := by simp; omega
    rw [lubTo_succ] at ih
    simp only [hlt, ifB_true, lt8 ha, lt8 hb, lt8 hc, lt8 hd, when_true', bT_ag, Int.toNat_natCast, Nat.zero_add, Nat.mul_one, bl64 ha hd, bl64 hb hd, bl64 hc hd, bT_cell f ha hd, bT_cell f hb hd, bT_cell f hc hd, isBool_bool, toBool_bool, wrn (show d < 1152921504606846976 by omega)]
    cases h0 : lubTo f a b c d with
    | false => rw [h0, Bool.false_and] at ih; rw [ifB_false]; exact ih
    | true =>
      rw [h0, Bool.true_and] at ih
      rw [ifB_true]
      cases h1 : f a d with
      | false => rw [h1] at ih; exact ih
      | true =>
        cases h2 : f b d with
        | false => rw [h1, h2] at ih; exact ih
        | true => rw [h1, h2] at ih; exact ih
theorem over2 {a b n K : Nat} (ha : a < 8) (hb : b < 8) (hn : n ≤ 8) (hK : 8 < K) (f : Tb) : ∀ (m c N : Nat), c + m = n → m < N →
    onL (L_level_over_2_0 Rt K true N n a b n c (bT f)) (K_level_over_2 Rt K true) = some ([.fz (.int .i64 (ovr f n a b m c))], [])
  | m, b, 0, _, h => by omega
  | 0, c, N + 1, h, _ => by
    rw [L_level_over_2_0_eq]
    simp [show ¬ ((c : Int) < (n : Int)) by omega, onL_some, X_level_over_2_0_eq, ovr]
  | m + 1, c, N + 1, h, hN => by
    have hc : c < 8 := by omega
    have ih := over2 (K := K) ha hb hn hK f m (c + 1) N (by omega) (by omega)
    rw [L_level_over_2_0_eq]
    have hlt : decide ((c : Int) < (n : Int)) = true := by simp; omega
    have h1 := over1 (K := K) ha hb hc hn f n c n 0 K (by omega) (by omega)
    have hl0 : lubTo f a b c 0 = true := rfl
    simp only [Int.natCast_zero, hl0] at h1
    simp only [hlt, ifB_true, lt8 ha, lt8 hb, lt8 hc, when_true', bT_ag, Int.toNat_natCast, Nat.zero_add, Nat.mul_one, bl64 ha hc, bl64 hb hc, bT_cell f ha hc, bT_cell f hb hc, isBool_bool, toBool_bool, wrn (show c < 1152921504606846976 by omega), ovr]
    cases q1 : f a c with
    | false => simpa using ih
    | true =>
      cases q2 : f b c with
      | false => simpa using ih
      | true =>
        simp only [Bool.not_true, ifB_false, jump_true, J_level_over_2_0_eq, h1, onL_some, X_level_over_1_0_eq, Bool.true_and, wrn (show c < 1152921504606846976 by omega)]
        cases q3 : lub f n a b c with
        | true => simp [onL_some, X_level_over_2_1_eq]
        | false => simpa using ih
theorem over_ok {a b n : Nat} (ha : a < 8) (hb : b < 8) (hn : n ≤ 8) (f : Tb) : Rt N_level_over [.fz (bT f), .fz (.int .i64 n), .fz (.int .i64 a), .fz (.int .i64 b)] = some ([.fz (.int .i64 (ovr f n a b n 0))], []) := by
  refine rt_call A_level_over rfl rfl 12 ?_
  rw [E_level_over, bT_fits, when_true']
  exact over2 ha hb hn (by omega) f n 0 12 (by omega) (by omega)

/-! Twists. -/
def tws1 (f : Tb) (a : Nat) : Nat → Nat → Bool
  | 0, _ => false
  | m + 1, b => (f a b && f b a) || tws1 f a m (b + 1)
def tws2 (f : Tb) : Nat → Nat → Bool
  | 0, _ => false
  | m + 1, a => tws1 f a a 0 || tws2 f m (a + 1)
theorem twisted1 {a K : Nat} (ha : a < 8) (f : Tb) (x7 x8 : Int) : ∀ (m b N : Nat), b + m = a → m < N →
    L_level_twisted_1_0 Rt K true N a x7 x8 a b (bT f) = some (match tws1 f a m b with | true => (.ret, X_level_twisted_1_0 true x7 x8 (bT f)) | false => (.exit 2, X_level_twisted_1_1 x7 x8 (bT f)))
  | m, b, 0, _, h => by omega
  | 0, b, N + 1, h, _ => by
    rw [L_level_twisted_1_0_eq]
    simp [show ¬ ((b : Int) < (a : Int)) by omega, tws1]
  | m + 1, b, N + 1, h, hN => by
    have hb : b < 8 := by omega
    have ih := twisted1 (K := K) ha f x7 x8 m (b + 1) N (by omega) (by omega)
    rw [L_level_twisted_1_0_eq]
    have hlt : decide ((b : Int) < (a : Int)) = true := by simp; omega
    simp only [hlt, ifB_true, lt8 ha, lt8 hb, when_true', bT_ag, Int.toNat_natCast, Nat.zero_add, Nat.mul_one, bl64 ha hb, bl64 hb ha, bT_cell f ha hb, bT_cell f hb ha, isBool_bool, toBool_bool, wrn (show b < 1152921504606846976 by omega), tws1, ih]
    cases q1 : f a b <;> cases q2 : f b a <;> simp
theorem twisted2 {n K : Nat} (hn : n ≤ 8) (hK : 8 < K) (f : Tb) : ∀ (m a N : Nat), a + m = n → m < N →
    onL (L_level_twisted_2_0 Rt K true N n a (bT f)) (K_level_twisted_2 Rt K true) = some ([.fz (.bool (tws2 f m a))], [])
  | m, a, 0, _, h => by omega
  | 0, a, N + 1, h, _ => by
    rw [L_level_twisted_2_0_eq]
    simp [show ¬ ((a : Int) < (n : Int)) by omega, tws2, onL_some, X_level_twisted_2_0_eq]
  | m + 1, a, N + 1, h, hN => by
    have ha : a < 8 := by omega
    have ih := twisted2 (K := K) hn hK f m (a + 1) N (by omega) (by omega)
    rw [L_level_twisted_2_0_eq]
    have hlt : decide ((a : Int) < (n : Int)) = true := by simp; omega
    have h1 := twisted1 (K := K) ha f n a a 0 K (by omega) (by omega)
    simp only [Int.natCast_zero] at h1
    simp only [hlt, ifB_true, h1, tws2]
    cases q : tws1 f a a 0 with
    | true => simp only [onL_some, X_level_twisted_1_0_eq, X_level_twisted_2_1_eq, Bool.true_or]
    | false => simp only [onL_some, X_level_twisted_1_1_eq, wrn (show a < 1152921504606846976 by omega), ih, Bool.false_or]
theorem twisted_ok {n : Nat} (hn : n ≤ 8) (f : Tb) : Rt N_level_twisted [.fz (bT f), .fz (.int .i64 n)] = some ([.fz (.bool (tws2 f n 0))], []) := by
  refine rt_call A_level_twisted rfl rfl 12 ?_
  rw [E_level_twisted, bT_fits, when_true']
  exact twisted2 hn (by omega) f n 0 12 (by omega) (by omega)
end Go.Ab
