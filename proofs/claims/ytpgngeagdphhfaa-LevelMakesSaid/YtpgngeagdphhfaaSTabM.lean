/- The reference's meets of a table. -/
import Derived.Test.YtpgngeagdphhfaaSTab
namespace Go.Ab
set_option linter.unusedVariables false
set_option linter.unusedSimpArgs false
theorem rm1_0 {t : List FV} {L : Lt} (T : IsTab t L) (h8 : L.n ≤ 8) {a b c K : Nat} (ha : a < L.n) (hb : b < L.n) (hc : c < L.n) : ∀ (m d N : Nat) (is : Bool), d + m = L.n → m < N →
    L_ref01_Meet_1_0 Rt K true N t a b c is d = some (.exit 2, X_ref01_Meet_1_0 t a b c (is && allI (fun d => !trn L.leq a d || (!trn L.leq b d || trn L.leq c d)) m d))
  | m, d, 0, _, _, h => by omega
  | 0, d, N + 1, is, h, _ => by
    rw [L_ref01_Meet_1_0_eq, T.len]
    simp [show ¬ ((d : Int) < (L.n : Int)) by omega, allI]
  | m + 1, d, N + 1, is, h, hN => by
    have hd : d < L.n := by omega
    have ih := fun is => rm1_0 T h8 (K := K) ha hb hc m (d + 1) N is (by omega) (by omega)
    have cm : ∀ a d, a < L.n → d < L.n → (t.getD d .nilp).toSl.getD a .nilp = .bool (trn L.leq a d) := fun a d x y => T.cell d a y x
    have hlt : decide ((d : Int) < (L.n : Int)) = true := by simp; omega
    rw [L_ref01_Meet_1_0_eq, T.len]
    simp only [dlt ha, dlt hb, dlt hc, dlt hd, Int.toNat_natCast, T.fits d hd, T.sl d hd, T.rlen d hd, cm a d ha hd, cm b d hb hd, cm c d hc hd, fits_bool, isBool_bool, toBool_bool, when_true', wrn (show d < 1152921504606846976 by omega), ih, allI]
    rw [hlt, ifB_true]
    cases trn L.leq a d <;> cases trn L.leq b d <;> cases trn L.leq c d <;> simp only [ifB_true, ifB_false, Bool.not_true, Bool.not_false, Bool.true_or, Bool.false_or, Bool.true_and, Bool.and_true, Bool.false_and, Bool.and_false]

theorem rm1_1 {t : List FV} {L : Lt} (T : IsTab t L) (h8 : L.n ≤ 8) {a b c K : Nat} (ha : a < L.n) (hb : b < L.n) (hc : c < L.n) (acc : List FV) : ∀ (m d N : Nat) (is : Bool), d + m = L.n → m < N →
    L_ref01_Meet_1_1 Rt K true N t a b c is d acc = some (.exit 2, X_ref01_Meet_1_1 t a b c (is && allI (fun d => !trn L.leq a d || (!trn L.leq b d || trn L.leq c d)) m d) acc)
  | m, d, 0, _, _, h => by omega
  | 0, d, N + 1, is, h, _ => by
    rw [L_ref01_Meet_1_1_eq, T.len]
    simp [show ¬ ((d : Int) < (L.n : Int)) by omega, allI]
  | m + 1, d, N + 1, is, h, hN => by
    have hd : d < L.n := by omega
    have ih := fun is => rm1_1 T h8 (K := K) ha hb hc acc m (d + 1) N is (by omega) (by omega)
    have cm : ∀ a d, a < L.n → d < L.n → (t.getD d .nilp).toSl.getD a .nilp = .bool (trn L.leq a d) := fun a d x y => T.cell d a y x
    have hlt : decide ((d : Int) < (L.n : Int)) = true := by simp; omega
    rw [L_ref01_Meet_1_1_eq, T.len]
    simp only [dlt ha, dlt hb, dlt hc, dlt hd, Int.toNat_natCast, T.fits d hd, T.sl d hd, T.rlen d hd, cm a d ha hd, cm b d hb hd, cm c d hc hd, fits_bool, isBool_bool, toBool_bool, when_true', wrn (show d < 1152921504606846976 by omega), ih, allI]
    rw [hlt, ifB_true]
    cases trn L.leq a d <;> cases trn L.leq b d <;> cases trn L.leq c d <;> simp only [ifB_true, ifB_false, Bool.not_true, Bool.not_false, Bool.true_or, Bool.false_or, Bool.true_and, Bool.and_true, Bool.false_and, Bool.and_false]

theorem rm2_1 {t : List FV} {L : Lt} (T : IsTab t L) (h8 : L.n ≤ 8) {a b K : Nat} (ha : a < L.n) (hb : b < L.n) (hK : 9 < K) : ∀ (m c N : Nat) (acc : List Nat), c + m = L.n → acc.length ≤ c → m < N →
    onL (L_ref01_Meet_2_1 Rt K true N t a b c (ints acc)) (K_ref01_Meet_2 Rt K true) = some ([.fz (.sl (ints (acc ++ flt (lubC (trn L.leq) L.n a b) m c)))], [])
  | m, d, 0, _, _, _, h => by omega
  | 0, c, N + 1, acc, h, _, _ => by
    rw [L_ref01_Meet_2_1_eq, T.len]
    simp [show ¬ ((c : Int) < (L.n : Int)) by omega, flt, onL_some, X_ref01_Meet_2_1_eq]
  | m + 1, c, N + 1, acc, h, hac, hN => by
    have hc : c < L.n := by omega
    have cm : ∀ a d, a < L.n → d < L.n → (t.getD d .nilp).toSl.getD a .nilp = .bool (trn L.leq a d) := fun a d x y => T.cell d a y x
    have hlt : decide ((c : Int) < (L.n : Int)) = true := by simp; omega
    have ih := fun acc => rm2_1 T h8 (K := K) ha hb hK m (c + 1) N acc (by omega)
    have i1 := fun is => rm1_1 T h8 (K := K) ha hb hc (ints acc) L.n 0 K is (by omega) (by omega)
    simp only [Int.natCast_zero] at i1
    rw [L_ref01_Meet_2_1_eq, T.len]
    simp only [dlt ha, dlt hb, dlt hc, Int.toNat_natCast, T.fits c hc, T.sl c hc, T.rlen c hc, cm a c ha hc, cm b c hb hc, fits_bool, isBool_bool, toBool_bool, when_true', jump_true, J_ref01_Meet_2_1_eq, i1, onL_some, X_ref01_Meet_1_1_eq, wrn (show c < 1152921504606846976 by omega), flt]
    rw [hlt, ifB_true]
    have hro : (decide (((ints acc).length + [FV.int .i64 (c : Int)].length) * 8 ≤ roomy) && decide ((ints acc).length + [FV.int .i64 (c : Int)].length ≤ roomy)) = true := by
      have : roomy = 140737488355328 := rfl
      simp [ints]; omega
    have hap : ints acc ++ [FV.int .i64 (c : Int)] = ints (acc ++ [c]) := by simp [ints]
    simp only [hro, when_true', hap]
    have hl : lubC (trn L.leq) L.n a b c = ((trn L.leq a c && trn L.leq b c) && allI (fun d => !trn L.leq a d || (!trn L.leq b d || trn L.leq c d)) L.n 0) := rfl
    cases q1 : trn L.leq a c with
    | false =>
      have : lubC (trn L.leq) L.n a b c = false := by rw [hl, q1]; rfl
      simp only [this, ifB_false, Bool.false_and]
      exact ih acc (by omega) (by omega)
    | true =>
      have : lubC (trn L.leq) L.n a b c = (trn L.leq b c && allI (fun d => !trn L.leq a d || (!trn L.leq b d || trn L.leq c d)) L.n 0) := by rw [hl, q1]; rfl
      rw [this]
      simp only [ifB_true]
      cases (trn L.leq b c && allI (fun d => !trn L.leq a d || (!trn L.leq b d || trn L.leq c d)) L.n 0) with
      | false => simp only [ifB_false]; exact ih acc (by omega) (by omega)
      | true =>
        simp only [ifB_true]
        rw [ih (acc ++ [c]) (by simp; omega) (by omega), List.append_assoc]; rfl
theorem rm2_0 {t : List FV} {L : Lt} (T : IsTab t L) (h8 : L.n ≤ 8) {a b K : Nat} (ha : a < L.n) (hb : b < L.n) (hK : 9 < K) : ∀ (m c N : Nat), c + m = L.n → m < N →
    onL (L_ref01_Meet_2_0 Rt K true N t a b c) (K_ref01_Meet_2 Rt K true) = some ([.fz (.sl (ints (flt (lubC (trn L.leq) L.n a b) m c)))], [])
  | m, d, 0, _, h => by omega
  | 0, c, N + 1, h, _ => by
    rw [L_ref01_Meet_2_0_eq, T.len]
    simp [show ¬ ((c : Int) < (L.n : Int)) by omega, flt, onL_some, X_ref01_Meet_2_0_eq, ints]
  | m + 1, c, N + 1, h, hN => by
    have hc : c < L.n := by omega
    have cm : ∀ a d, a < L.n → d < L.n → (t.getD d .nilp).toSl.getD a .nilp = .bool (trn L.leq a d) := fun a d x y => T.cell d a y x
    have hlt : decide ((c : Int) < (L.n : Int)) = true := by simp; omega
    have ih := rm2_0 T h8 (K := K) ha hb hK m (c + 1) N (by omega) (by omega)
    have i1 := fun is => rm1_0 T h8 (K := K) ha hb hc L.n 0 K is (by omega) (by omega)
    simp only [Int.natCast_zero] at i1
    rw [L_ref01_Meet_2_0_eq, T.len]
    simp only [dlt ha, dlt hb, dlt hc, Int.toNat_natCast, T.fits c hc, T.sl c hc, T.rlen c hc, cm a c ha hc, cm b c hb hc, fits_bool, isBool_bool, toBool_bool, when_true', jump_true, J_ref01_Meet_2_0_eq, i1, onL_some, X_ref01_Meet_1_0_eq, wrn (show c < 1152921504606846976 by omega), flt]
    rw [hlt, ifB_true]
    have hro : (decide (((0 : Nat) + [FV.int .i64 (c : Int)].length) * 8 ≤ roomy) && decide ((0 : Nat) + [FV.int .i64 (c : Int)].length ≤ roomy)) = true := by
      have : roomy = 140737488355328 := rfl
      rw [this]; rfl
    have hap : [FV.int .i64 (c : Int)] = ints [c] := by simp [ints]
    have i2 := rm2_1 T h8 (K := K) ha hb hK m (c + 1) N [c] (by omega) (by simp) (by omega)
    simp only [hro, when_true']
    rw [hap]
    have hl : lubC (trn L.leq) L.n a b c = ((trn L.leq a c && trn L.leq b c) && allI (fun d => !trn L.leq a d || (!trn L.leq b d || trn L.leq c d)) L.n 0) := rfl
    cases q1 : trn L.leq a c with
    | false =>
      have : lubC (trn L.leq) L.n a b c = false := by rw [hl, q1]; rfl
      simp only [this, ifB_false, Bool.false_and]
      exact ih
    | true =>
      have : lubC (trn L.leq) L.n a b c = (trn L.leq b c && allI (fun d => !trn L.leq a d || (!trn L.leq b d || trn L.leq c d)) L.n 0) := by rw [hl, q1]; rfl
      rw [this]
      simp only [ifB_true]
      cases (trn L.leq b c && allI (fun d => !trn L.leq a d || (!trn L.leq b d || trn L.leq c d)) L.n 0) with
      | false => simp only [ifB_false]; exact ih
      | true =>
        simp only [ifB_true]
        rw [i2]; rfl
theorem rMeet_ok {t : List FV} {L : Lt} (T : IsTab t L) (h8 : L.n ≤ 8) {a b : Nat} (ha : a < L.n) (hb : b < L.n) : Rt N_ref01_Meet [.fz (.sl t), .fz (.int .i64 a), .fz (.int .i64 b)] = some ([.fz (.sl (ints (flt (lubC (trn L.leq) L.n a b) L.n 0)))], []) := by
  refine rt_call A_ref01_Meet rfl rfl 12 ?_
  rw [E_ref01_Meet]
  exact rm2_0 T h8 ha hb (by omega) L.n 0 12 (by omega) (by omega)
theorem flt_meet {L : Lt} (O : L.Ok) {a b : Nat} (ha : a < L.n) (hb : b < L.n) : flt (lubC (trn L.leq) L.n a b) L.n 0 = [L.meet a b] := by
  have hj := O.meet a b ha hb
  refine flt_one ((lubC_iff hj).2 ⟨hj, O.meetl a b ha hb, O.meetr a b ha hb, fun d hd x y => O.meetm a b d ha hb hd x y⟩) (fun x _ hx q => ?_) (by omega) (by omega)
  obtain ⟨q1, q2, q3, q4⟩ := (lubC_iff (by omega)).1 q
  exact O.anti x _ q1 hj (O.meetm a b x ha hb q1 q2 q3) (q4 _ hj (O.meetl a b ha hb) (O.meetr a b ha hb))
end Go.Ab
