/- The reference's joins, bottom and top of a table. -/
import Derived.Test.YtdpfpdejipkffaaSLev5
namespace Go.Ab
set_option linter.unusedVariables false
set_option linter.unusedSimpArgs false

theorem dlt {a n : Nat} (h : a < n) : (decide ((0 : Int) ≤ (a : Int)) && decide ((a : Int) < (n : Int))) = true := by simp; omega
def lubC (g : Tb) (n a b c : Nat) : Bool := (g a c && g b c) && allI (fun d => !g a d || (!g b d || g c d)) n 0
theorem lubC_iff {g : Tb} {n a b c : Nat} (hc : c < n) : lubC g n a b c = true ↔ IsLub g n a b c := by
  simp only [lubC, Bool.and_eq_true, allI_iff]
  constructor
  · rintro ⟨⟨h1, h2⟩, h3⟩
    refine ⟨hc, h1, h2, fun d hd x y => ?_⟩
    have := h3 d (by omega) (by omega)
    simpa [x, y] using this
  · rintro ⟨_, h1, h2, h3⟩
    refine ⟨⟨h1, h2⟩, fun d _ hd => ?_⟩
    cases q1 : g a d with
    | false => simp
    | true =>
      cases q2 : g b d with
      | false => simp
      | true => simp [h3 d (by omega) q1 q2]
def flt (p : Nat → Bool) : Nat → Nat → List Nat
  | 0, _ => []
  | m + 1, c => match p c with | true => c :: flt p m (c + 1) | false => flt p m (c + 1)
theorem flt_none {p : Nat → Bool} : ∀ {m c : Nat}, (∀ x, c ≤ x → x < c + m → p x = false) → flt p m c = []
  | 0, _, _ => rfl
  | m + 1, c, h => by
    simp only [flt, h c (by omega) (by omega)]
    exact flt_none fun x h1 h2 => h x (by omega) (by omega)
theorem flt_one {p : Nat → Bool} {j : Nat} (hj : p j = true) : ∀ {m c : Nat}, (∀ x, c ≤ x → x < c + m → p x = true → x = j) → c ≤ j → j < c + m → flt p m c = [j]
  | 0, c, _, h1, h2 => by omega
  | m + 1, c, h, h1, h2 => by
    simp only [flt]
    by_cases e : c = j
    · subst e
      rw [hj]
      simp only
      rw [flt_none fun x h3 h4 => by
        cases q : p x with
        | false => rfl
        | true => have := h x (by omega) (by omega) q; omega]
    · cases q : p c with
      | true => exact absurd (h c (by omega) (by omega) q) e
      | false => exact flt_one hj (fun x h3 h4 => h x (by omega) (by omega)) (by omega) (by omega)
def ints (l : List Nat) : List FV := l.map fun (n : Nat) => .int .i64 (n : Int)

theorem rj1_0 {t : List FV} {L : Lt} (T : IsTab t L) (h8 : L.n ≤ 8) {a b c K : Nat} (ha : a < L.n) (hb : b < L.n) (hc : c < L.n) : ∀ (m d N : Nat) (is : Bool), d + m = L.n → m < N →
    L_ref01_Join_1_0 Rt K true N t a b c is d = some (.exit 2, X_ref01_Join_1_0 t a b c (is && allI (fun d => !L.leq a d || (!L.leq b d || L.leq c d)) m d))
  | m, d, 0, _, _, h => by omega
  | 0, d, N + 1, is, h, _ => by
    rw [L_ref01_Join_1_0_eq, T.len]
    simp [show ¬ ((d : Int) < (L.n : Int)) by omega, allI]
  | m + 1, d, N + 1, is, h, hN => by
    have hd : d < L.n := by omega
    have ih := fun is => rj1_0 T h8 (K := K) ha hb hc m (d + 1) N is (by omega) (by omega)
    have hlt : decide ((d : Int) < (L.n : Int)) = true := by simp; omega
    rw [L_ref01_Join_1_0_eq, T.len]
    simp only [dlt ha, dlt hb, dlt hc, dlt hd, Int.toNat_natCast, T.fits a ha, T.fits b hb, T.fits c hc, T.sl a ha, T.sl b hb, T.sl c hc, T.rlen a ha, T.rlen b hb, T.rlen c hc, T.cell a d ha hd, T.cell b d hb hd, T.cell c d hc hd, fits_bool, isBool_bool, toBool_bool, when_true', wrn (show d < 1152921504606846976 by omega), ih, allI]
    rw [hlt, ifB_true]
    cases L.leq a d <;> cases L.leq b d <;> cases L.leq c d <;> simp only [ifB_true, ifB_false, Bool.not_true, Bool.not_false, Bool.true_or, Bool.false_or, Bool.true_and, Bool.and_true, Bool.false_and, Bool.and_false]

theorem rj1_1 {t : List FV} {L : Lt} (T : IsTab t L) (h8 : L.n ≤ 8) {a b c K : Nat} (ha : a < L.n) (hb : b < L.n) (hc : c < L.n) (acc : List FV) : ∀ (m d N : Nat) (is : Bool), d + m = L.n → m < N →
    L_ref01_Join_1_1 Rt K true N t a b c is d acc = some (.exit 2, X_ref01_Join_1_1 t a b c (is && allI (fun d => !L.leq a d || (!L.leq b d || L.leq c d)) m d) acc)
  | m, d, 0, _, _, h => by omega
  | 0, d, N + 1, is, h, _ => by
    rw [L_ref01_Join_1_1_eq, T.len]
    simp [show ¬ ((d : Int) < (L.n : Int)) by omega, allI]
  | m + 1, d, N + 1, is, h, hN => by
    have hd : d < L.n := by omega
    have ih := fun is => rj1_1 T h8 (K := K) ha hb hc acc m (d + 1) N is (by omega) (by omega)
    have hlt : decide ((d : Int) < (L.n : Int)) = true := by simp; omega
    rw [L_ref01_Join_1_1_eq, T.len]
    simp only [dlt ha, dlt hb, dlt hc, dlt hd, Int.toNat_natCast, T.fits a ha, T.fits b hb, T.fits c hc, T.sl a ha, T.sl b hb, T.sl c hc, T.rlen a ha, T.rlen b hb, T.rlen c hc, T.cell a d ha hd, T.cell b d hb hd, T.cell c d hc hd, fits_bool, isBool_bool, toBool_bool, when_true', wrn (show d < 1152921504606846976 by omega), ih, allI]
    rw [hlt, ifB_true]
    cases L.leq a d <;> cases L.leq b d <;> cases L.leq c d <;> simp only [ifB_true, ifB_false, Bool.not_true, Bool.not_false, Bool.true_or, Bool.false_or, Bool.true_and, Bool.and_true, Bool.false_and, Bool.and_false]

theorem rj2_1 {t : List FV} {L : Lt} (T : IsTab t L) (h8 : L.n ≤ 8) {a b K : Nat} (ha : a < L.n) (hb : b < L.n) (hK : 9 < K) : ∀ (m c N : Nat) (acc : List Nat), c + m = L.n → acc.length ≤ c → m < N →
    onL (L_ref01_Join_2_1 Rt K true N t a b c (ints acc)) (K_ref01_Join_2 Rt K true) = some ([.fz (.sl (ints (acc ++ flt (lubC L.leq L.n a b) m c)))], [])
  | m, d, 0, _, _, _, h => by omega
  | 0, c, N + 1, acc, h, _, _ => by
    rw [L_ref01_Join_2_1_eq, T.len]
    simp [show ¬ ((c : Int) < (L.n : Int)) by omega, flt, onL_some, X_ref01_Join_2_1_eq]
  | m + 1, c, N + 1, acc, h, hac, hN => by
    have hc : c < L.n := by omega
    have hlt : decide ((c : Int) < (L.n : Int)) = true := by simp; omega
    have ih := fun acc => rj2_1 T h8 (K := K) ha hb hK m (c + 1) N acc (by omega)
    have i1 := fun is => rj1_1 T h8 (K := K) ha hb hc (ints acc) L.n 0 K is (by omega) (by omega)
    simp only [Int.natCast_zero] at i1
    rw [L_ref01_Join_2_1_eq, T.len]
    simp only [dlt ha, dlt hb, dlt hc, Int.toNat_natCast, T.fits a ha, T.fits b hb, T.sl a ha, T.sl b hb, T.rlen a ha, T.rlen b hb, T.cell a c ha hc, T.cell b c hb hc, fits_bool, isBool_bool, toBool_bool, when_true', jump_true, J_ref01_Join_2_1_eq, i1, onL_some, X_ref01_Join_1_1_eq, wrn (show c < 1152921504606846976 by omega), flt]
    rw [hlt, ifB_true]
    have hro : (decide (((ints acc).length + [FV.int .i64 (c : Int)].length) * 8 ≤ roomy) && decide ((ints acc).length + [FV.int .i64 (c : Int)].length ≤ roomy)) = true := by
      have : roomy = 140737488355328 := rfl
      simp [ints]; omega
    have hap : ints acc ++ [FV.int .i64 (c : Int)] = ints (acc ++ [c]) := by simp [ints]
    simp only [hro, when_true', hap]
    have hl : lubC L.leq L.n a b c = ((L.leq a c && L.leq b c) && allI (fun d => !L.leq a d || (!L.leq b d || L.leq c d)) L.n 0) := rfl
    cases q1 : L.leq a c with
    | false =>
      have : lubC L.leq L.n a b c = false := by rw [hl, q1]; rfl
      simp only [this, ifB_false, Bool.false_and]
      exact ih acc (by omega) (by omega)
    | true =>
      have : lubC L.leq L.n a b c = (L.leq b c && allI (fun d => !L.leq a d || (!L.leq b d || L.leq c d)) L.n 0) := by rw [hl, q1]; rfl
      rw [this]
      simp only [ifB_true]
      cases (L.leq b c && allI (fun d => !L.leq a d || (!L.leq b d || L.leq c d)) L.n 0) with
      | false => simp only [ifB_false]; exact ih acc (by omega) (by omega)
      | true =>
        simp only [ifB_true]
        rw [ih (acc ++ [c]) (by simp; omega) (by omega), List.append_assoc]; rfl
theorem rj2_0 {t : List FV} {L : Lt} (T : IsTab t L) (h8 : L.n ≤ 8) {a b K : Nat} (ha : a < L.n) (hb : b < L.n) (hK : 9 < K) : ∀ (m c N : Nat), c + m = L.n → m < N →
    onL (L_ref01_Join_2_0 Rt K true N t a b c) (K_ref01_Join_2 Rt K true) = some ([.fz (.sl (ints (flt (lubC L.leq L.n a b) m c)))], [])
  | m, d, 0, _, h => by omega
  | 0, c, N + 1, h, _ => by
    rw [L_ref01_Join_2_0_eq, T.len]
    simp [show ¬ ((c : Int) < (L.n : Int)) by omega, flt, onL_some, X_ref01_Join_2_0_eq, ints]
  | m + 1, c, N + 1, h, hN => by
    have hc : c < L.n := by omega
    have hlt : decide ((c : Int) < (L.n : Int)) = true := by simp; omega
    have ih := rj2_0 T h8 (K := K) ha hb hK m (c + 1) N (by omega) (by omega)
    have i1 := fun is => rj1_0 T h8 (K := K) ha hb hc L.n 0 K is (by omega) (by omega)
    simp only [Int.natCast_zero] at i1
    rw [L_ref01_Join_2_0_eq, T.len]
    simp only [dlt ha, dlt hb, dlt hc, Int.toNat_natCast, T.fits a ha, T.fits b hb, T.sl a ha, T.sl b hb, T.rlen a ha, T.rlen b hb, T.cell a c ha hc, T.cell b c hb hc, fits_bool, isBool_bool, toBool_bool, when_true', jump_true, J_ref01_Join_2_0_eq, i1, onL_some, X_ref01_Join_1_0_eq, wrn (show c < 1152921504606846976 by omega), flt]
    rw [hlt, ifB_true]
    have hro : (decide (((0 : Nat) + [FV.int .i64 (c : Int)].length) * 8 ≤ roomy) && decide ((0 : Nat) + [FV.int .i64 (c : Int)].length ≤ roomy)) = true := by
      have : roomy = 140737488355328 := rfl
      rw [this]; rfl
    have hap : [FV.int .i64 (c : Int)] = ints [c] := by simp [ints]
    have i2 := rj2_1 T h8 (K := K) ha hb hK m (c + 1) N [c] (by omega) (by simp) (by omega)
    simp only [hro, when_true']
    rw [hap]
    have hl : lubC L.leq L.n a b c = ((L.leq a c && L.leq b c) && allI (fun d => !L.leq a d || (!L.leq b d || L.leq c d)) L.n 0) := rfl
    cases q1 : L.leq a c with
    | false =>
      have : lubC L.leq L.n a b c = false := by rw [hl, q1]; rfl
      simp only [this, ifB_false, Bool.false_and]
      exact ih
    | true =>
      have : lubC L.leq L.n a b c = (L.leq b c && allI (fun d => !L.leq a d || (!L.leq b d || L.leq c d)) L.n 0) := by rw [hl, q1]; rfl
      rw [this]
      simp only [ifB_true]
      cases (L.leq b c && allI (fun d => !L.leq a d || (!L.leq b d || L.leq c d)) L.n 0) with
      | false => simp only [ifB_false]; exact ih
      | true =>
        simp only [ifB_true]
        rw [i2]; rfl
theorem rJoin_ok {t : List FV} {L : Lt} (T : IsTab t L) (h8 : L.n ≤ 8) {a b : Nat} (ha : a < L.n) (hb : b < L.n) : Rt N_ref01_Join [.fz (.sl t), .fz (.int .i64 a), .fz (.int .i64 b)] = some ([.fz (.sl (ints (flt (lubC L.leq L.n a b) L.n 0)))], []) := by
  refine rt_call A_ref01_Join rfl rfl 12 ?_
  rw [E_ref01_Join]
  exact rj2_0 T h8 ha hb (by omega) L.n 0 12 (by omega) (by omega)
theorem flt_join {L : Lt} (O : L.Ok) {a b : Nat} (ha : a < L.n) (hb : b < L.n) : flt (lubC L.leq L.n a b) L.n 0 = [L.join a b] := by
  have hj := O.join a b ha hb
  refine flt_one ((lubC_iff hj).2 ⟨hj, O.joinl a b ha hb, O.joinr a b ha hb, fun d hd x y => O.joinm a b d ha hb hd x y⟩) (fun x _ hx q => ?_) (by omega) (by omega)
  obtain ⟨q1, q2, q3, q4⟩ := (lubC_iff (by omega)).1 q
  exact O.anti x _ q1 hj (q4 _ hj (O.joinl a b ha hb) (O.joinr a b ha hb)) (O.joinm a b x ha hb q1 q2 q3)
end Go.Ab
