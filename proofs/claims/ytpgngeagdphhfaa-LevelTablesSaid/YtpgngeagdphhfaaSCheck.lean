/- The reference's names, and why a policy's levels aren't right. -/
import Derived.Test.YtpgngeagdphhfaaSTabM
import Derived.Test.YtpgngeagdphhfaaSLev4B
namespace Go.Ab
set_option linter.unusedVariables false
set_option linter.unusedSimpArgs false

def okR (s : ByteArray) (i : Nat) : Bool := (decide (97 ≤ byt s i) && decide (byt s i ≤ 122)) || (decide (48 ≤ byt s i) && decide (byt s i ≤ 57))
theorem rname1 {K : Nat} (s : ByteArray) (hs : s.size ≤ 16) : ∀ (m i N : Nat), i + m = s.size → m < N →
    onL (L_ref01_Name_1_0 Rt K true N s i) (K_ref01_Name_1 Rt K true) = some ([.fz (.bool (allI (okR s) m i))], [])
  | m, b, 0, _, h => by omega
  | 0, i, N + 1, h, _ => by
    rw [L_ref01_Name_1_0_eq]
    simp [show ¬ ((i : Int) < (s.size : Int)) by omega, onL_some, X_ref01_Name_1_1_eq, allI]
  | m + 1, i, N + 1, h, hN => by
    have ih := rname1 (K := K) s hs m (i + 1) N (by omega) (by omega)
    rw [L_ref01_Name_1_0_eq]
    have hlt : decide ((i : Int) < (s.size : Int)) = true := by simp; omega
    have h00 : decide ((0 : Int) ≤ (i : Int)) = true := by simp
    have hb : ((Array.getD (ByteArray.data s) i 0).toNat) = byt s i := rfl
    have w := wrn (show i < 1152921504606846976 by omega)
    have g1 : decide (((byt s i : Nat) : Int) ≥ 97) = decide (97 ≤ byt s i) := by rw [decide_eq_decide]; omega
    have g2 : decide (((byt s i : Nat) : Int) ≤ 122) = decide (byt s i ≤ 122) := by rw [decide_eq_decide]; omega
    have g3 : decide (((byt s i : Nat) : Int) ≥ 48) = decide (48 ≤ byt s i) := by rw [decide_eq_decide]; omega
    have g4 : decide (((byt s i : Nat) : Int) ≤ 57) = decide (byt s i ≤ 57) := by rw [decide_eq_decide]; omega
    simp only [hlt, h00, ifB_true, when_true', Bool.and_true, Int.toNat_natCast, hb, w, g1, g2, g3, g4, allI, okR]
    cases h1 : decide (97 ≤ byt s i) <;> cases h2 : decide (byt s i ≤ 122) <;> cases h3 : decide (48 ≤ byt s i) <;> cases h4 : decide (byt s i ≤ 57) <;>
      simp only [ifB_true, ifB_false, Bool.not_true, Bool.not_false, Bool.true_and, Bool.and_true, Bool.false_and, Bool.and_false, Bool.true_or, Bool.or_true, Bool.false_or, Bool.or_false, onL_some, X_ref01_Name_1_0_eq, ih]
theorem nm_same (s : ByteArray) (h1 : 1 ≤ s.size) (h2 : s.size ≤ 16) : nmB s = ((decide (97 ≤ byt s 0) && decide (byt s 0 ≤ 122)) && allI (okR s) s.size 0) := by
  unfold nmB
  rw [show decide (1 ≤ s.size) = true by simpa using h1, show decide (s.size ≤ 16) = true by simpa using h2, Bool.true_and, Bool.true_and, Bool.eq_iff_iff, Bool.and_eq_true, allI_iff, allI_iff]
  constructor
  · intro h
    have h0 := h 0 (by omega) (by omega)
    refine ⟨by simpa [okC] using h0, fun j _ hj => ?_⟩
    have := h j (by omega) hj
    simp only [okC, okR, Bool.or_eq_true, Bool.and_eq_true] at this ⊢
    rcases this with h | h
    · exact .inl h
    · exact .inr h.1
  · rintro ⟨h0, h⟩ j _ hj
    have := h j (by omega) hj
    simp only [okC, okR, Bool.or_eq_true, Bool.and_eq_true] at this ⊢
    rcases this with h | h
    · exact .inl h
    · by_cases e : j = 0
      · subst e; rw [Bool.and_eq_true] at h0; exact .inl h0
      · exact .inr ⟨h, by simp [e]⟩
theorem rName_ok (s : ByteArray) : Rt N_ref01_Name [.fz (.str s)] = some ([.fz (.bool (nmB s))], []) := by
  refine rt_call A_ref01_Name rfl rfl 20 ?_
  rw [E_ref01_Name]
  by_cases h1 : 1 ≤ s.size
  · have d1 : decide ((s.size : Int) < 1) = false := by simp; omega
    by_cases h2 : s.size ≤ 16
    · have d2 : decide ((s.size : Int) > 16) = false := by simp; omega
      have d3 : decide (0 < s.size) = true := by simp; omega
      have d4 : decide ((0 : Int) < (s.size : Int)) = true := by simp; omega
      have hb : ((Array.getD (ByteArray.data s) 0 0).toNat) = byt s 0 := rfl
      have g1 : decide (((byt s 0 : Nat) : Int) < 97) = !decide (97 ≤ byt s 0) := by rw [← decide_not, decide_eq_decide]; omega
      have g2 : decide (((byt s 0 : Nat) : Int) > 122) = !decide (byt s 0 ≤ 122) := by rw [← decide_not, decide_eq_decide]; omega
      have n1 := rname1 (K := 20) s h2 s.size 0 20 (by omega) (by omega)
      simp only [Int.natCast_zero] at n1
      rw [nm_same s h1 h2]
      simp only [d1, d2, d3, d4, ifB_false, when_true', hb, g1, g2, jump_true, J_ref01_Name_2_0_eq, n1]
      cases decide (97 ≤ byt s 0) <;> cases decide (byt s 0 ≤ 122) <;> simp
    · have d2 : decide ((s.size : Int) > 16) = true := by simp; omega
      have : nmB s = false := by simp [nmB, h2]
      simp [d1, d2, this]
  · have d1 : decide ((s.size : Int) < 1) = true := by simp; omega
    have : nmB s = false := by simp [nmB, h1]
    simp [d1, this]

section
variable (l : List ByteArray) (pairs : List (Int × Int)) (pp : List FV)
theorem chk1 {K : Nat} (h8 : l.length ≤ 8) (i : Nat) (hi : i < l.length) : ∀ (m j N : Nat), j + m = i → m < N →
    L_ref01_Check_1_0 Rt K true N i j (strs l) (prs pairs) pp = some (match anyI (isN l i) m j with | true => (.ret, X_ref01_Check_1_0 10 i (strs l) (prs pairs) pp) | false => (.exit 2, X_ref01_Check_1_1 i (strs l) (prs pairs) pp))
  | m, b, 0, _, h => by omega
  | 0, j, N + 1, h, _ => by
    rw [L_ref01_Check_1_0_eq]
    simp [show ¬ ((j : Int) < (i : Int)) by omega, anyI]
  | m + 1, j, N + 1, h, hN => by
    have ih := chk1 (K := K) h8 i hi m (j + 1) N (by omega) (by omega)
    rw [L_ref01_Check_1_0_eq]
    have hlt : decide ((j : Int) < (i : Int)) = true := by simp; omega
    have w := wrn (show j < 1152921504606846976 by omega)
    simp only [strs_len, dlt (show i < l.length from hi), dlt (show j < l.length by omega), strs_get hi, strs_get (show j < l.length by omega), when_true', Int.toNat_natCast, fits_str, isStr_str, toStr_str, w, ih, bytes_beq, anyI]
    rw [hlt, ifB_true]
    show ifB (isN l i j) _ _ = _
    cases isN l i j <;> simp only [ifB_true, ifB_false, Bool.true_or, Bool.false_or]
theorem chk2 {K : Nat} (h8 : l.length ≤ 8) (hK : 9 < K) {r : Option Ans} (hr : K_ref01_Check_2 Rt K true (.exit 0) (X_ref01_Check_2_0 (strs l) (prs pairs) pp) = r) : ∀ (m i N : Nat), i + m = l.length → m < N →
    onL (L_ref01_Check_2_0 Rt K true N i (strs l) (prs pairs) pp) (K_ref01_Check_2 Rt K true) = match allI (fun i => nmB (l.getD i ByteArray.empty) && !anyI (isN l i) i 0) m i with | true => r | false => some ([.fz (.int .i64 10)], [])
  | m, b, 0, _, h => by omega
  | 0, i, N + 1, h, _ => by
    rw [L_ref01_Check_2_0_eq, strs_len]
    simp only [show decide ((i : Int) < (l.length : Int)) = false by simp; omega, ifB_false, onL_some, hr, allI]
  | m + 1, i, N + 1, h, hN => by
    have hi : i < l.length := by omega
    have ih := chk2 (K := K) h8 hK hr m (i + 1) N (by omega) (by omega)
    have c1 := chk1 l pairs pp (K := K) h8 i hi i 0 K (by omega) (by omega)
    simp only [Int.natCast_zero] at c1
    have hlt : decide ((i : Int) < (l.length : Int)) = true := by simp; omega
    have w := wrn (show i < 1152921504606846976 by omega)
    rw [L_ref01_Check_2_0_eq, strs_len]
    simp only [hlt, ifB_true, c1, allI]
    cases anyI (isN l i) i 0 with
    | true => simp only [onL_some, X_ref01_Check_1_0_eq, X_ref01_Check_2_1_eq, Bool.not_true, Bool.and_false, Bool.false_and]
    | false =>
      simp only [onL_some, X_ref01_Check_1_1_eq, strs_len, dlt hi, strs_get hi, when_true', Int.toNat_natCast, fits_str, isStr_str, toStr_str, rName_ok, onR_some, List.isEmpty_nil, allF_cons, allF_nil, Bool.and_true, List.getD_cons_zero, toF_fz, isBool_bool, toBool_bool, Bool.not_false]
      cases nmB (l.getD i ByteArray.empty) with
      | false => simp only [Bool.not_false, ifB_true, onL_some, X_ref01_Check_2_1_eq, Bool.false_and]
      | true => simp only [Bool.not_true, ifB_false, w, ih, Bool.true_and]
theorem chk3 {K : Nat} (h8 : l.length ≤ 8) {r : Option Ans} (hr : K_ref01_Check_3 Rt K true (.exit 4) (X_ref01_Check_3_1 (strs l) (prs pairs) pp) = r) (h64 : pairs.length ≤ 64) : ∀ (m i N : Nat), i + m = pairs.length → m < N →
    onL (L_ref01_Check_3_0 Rt K true N i (strs l) (prs pairs) pp) (K_ref01_Check_3 Rt K true) = match (pairs.drop i).all (inP l.length) with | true => r | false => some ([.fz (.int .i64 2)], [])
  | m, b, 0, _, h => by omega
  | 0, i, N + 1, h, _ => by
    rw [L_ref01_Check_3_0_eq, prs_len, List.drop_eq_nil_of_le (by omega)]
    simp only [show decide ((i : Int) < (pairs.length : Int)) = false by simp; omega, ifB_false, onL_some, hr, List.all_nil]
  | m + 1, i, N + 1, h, hN => by
    have hi : i < pairs.length := by omega
    have hd : pairs.drop i = pairs.getD i (0, 0) :: pairs.drop (i + 1) := by
      rw [List.drop_eq_getElem_cons hi]; simp [hi]
    have ih := chk3 (K := K) h8 hr h64 m (i + 1) N (by omega) (by omega)
    have hlt : decide ((i : Int) < (pairs.length : Int)) = true := by simp; omega
    have h00 : decide ((0 : Int) ≤ (i : Int)) = true := by simp
    have w := wrn (show i < 1152921504606846976 by omega)
    rw [L_ref01_Check_3_0_eq, hd]
    simp only [strs_len, prs_len, hlt, h00, prs_get hi, ifB_true, when_true', Bool.and_true, Int.toNat_natCast, fits_ag, isAg_ag, cell_ag, List.length_cons, List.length_nil, List.getD_cons_zero, List.getD_cons_succ, isInt_int, toInt_int, beq_self_eq_true, w, List.all_cons]
    generalize pairs.getD i (0, 0) = p
    by_cases d1 : p.1 < 0
    · simp [inP, d1, onL_some, X_ref01_Check_3_0_eq]
    · by_cases d2 : p.2 < 0
      · simp [inP, d1, d2, onL_some, X_ref01_Check_3_0_eq]
      · by_cases d3 : p.1 ≥ l.length
        · simp [inP, d1, d2, d3, onL_some, X_ref01_Check_3_0_eq]
        · by_cases d4 : p.2 ≥ l.length
          · simp [inP, d1, d2, d3, d4, onL_some, X_ref01_Check_3_0_eq]
          · have q : inP l.length p = true := by simp [inP, d1, d2, d3, d4]
            have e1 : decide (p.1 < 0) = false := by simpa using d1
            have e2 : decide (p.2 < 0) = false := by simpa using d2
            have e3 : decide (p.1 ≥ l.length) = false := by simpa using d3
            have e4 : decide (p.2 ≥ l.length) = false := by simpa using d4
            rw [q, Bool.true_and]
            simp only [e1, e2, e3, e4, ifB_false, ih]
end
def badAB (g : Tb) (n a b : Nat) : Bool := ((!(a == b)) && (g a b && g b a)) || (!((flt (lubC g n a b) n 0).length == 1) || !((flt (lubC (trn g) n a b) n 0).length == 1))
theorem chk4 {t : List FV} {L : Lt} (T : IsTab t L) (h8 : L.n ≤ 8) {a K : Nat} (ha : a < L.n) : ∀ (m b N : Nat), b + m = L.n → m < N →
    L_ref01_Check_4_0 Rt K true N (.sl t) a b = some (match anyI (badAB L.leq L.n a) m b with | true => (.ret, X_ref01_Check_4_0 9 (.sl t) a) | false => (.exit 8, X_ref01_Check_4_1 (.sl t) a))
  | m, b, 0, _, h => by omega
  | 0, b, N + 1, h, _ => by
    rw [L_ref01_Check_4_0_eq, isSl_sl, toSl_sl, T.len]
    simp [show ¬ ((b : Int) < (L.n : Int)) by omega, anyI]
  | m + 1, b, N + 1, h, hN => by
    have hb : b < L.n := by omega
    have ih := chk4 T h8 (K := K) ha m (b + 1) N (by omega) (by omega)
    have hlt : decide ((b : Int) < (L.n : Int)) = true := by simp; omega
    have w := wrn (show b < 1152921504606846976 by omega)
    have j := rJoin_ok T h8 ha hb
    have mm := rMeet_ok T h8 ha hb
    have il : ∀ l : List Nat, (ints l).length = l.length := fun l => by simp [ints]
    have ne : ((a : Int) != (b : Int)) = !(a == b) := by rw [Bool.eq_iff_iff]; simp; omega
    have n1 : ∀ n : Nat, ((n : Int) != 1) = !(n == 1) := fun n => by rw [Bool.eq_iff_iff]; simp; omega
    rw [L_ref01_Check_4_0_eq, isSl_sl, toSl_sl, T.len]
    simp only [when_true', dlt ha, dlt hb, Int.toNat_natCast, T.fits a ha, T.fits b hb, T.sl a ha, T.sl b hb, T.rlen a ha, T.rlen b hb, T.cell a b ha hb, T.cell b a hb ha, fits_bool, isBool_bool, toBool_bool, j, mm, onR_some, List.isEmpty_nil, allF_cons, allF_nil, Bool.and_true, List.getD_cons_zero, toF_fz, isSl_sl, toSl_sl, il, ne, n1, w, ih, anyI, badAB]
    rw [hlt, ifB_true]
    cases (a == b) <;> cases L.leq a b <;> cases L.leq b a <;> cases (flt (lubC L.leq L.n a b) L.n 0).length == 1 <;> cases (flt (lubC (trn L.leq) L.n a b) L.n 0).length == 1 <;>
      simp only [Bool.not_true, Bool.not_false, ifB_true, ifB_false, Bool.true_and, Bool.false_and, Bool.and_true, Bool.and_false, Bool.true_or, Bool.false_or, Bool.or_true, Bool.or_false]
theorem chk5 {t : List FV} {L : Lt} (T : IsTab t L) (h8 : L.n ≤ 8) {K : Nat} (hK : 9 < K) : ∀ (m a N : Nat), a + m = L.n → m < N →
    onL (L_ref01_Check_5_0 Rt K true N (.sl t) a) (K_ref01_Check_5 Rt K true) = some ([.fz (.int .i64 (match anyI (fun a => anyI (badAB L.leq L.n a) L.n 0) m a with | true => 9 | false => 0))], [])
  | m, b, 0, _, h => by omega
  | 0, a, N + 1, h, _ => by
    rw [L_ref01_Check_5_0_eq, isSl_sl, toSl_sl, T.len]
    simp [show ¬ ((a : Int) < (L.n : Int)) by omega, anyI, onL_some, X_ref01_Check_5_0_eq]
  | m + 1, a, N + 1, h, hN => by
    have ha : a < L.n := by omega
    have ih := chk5 T h8 (K := K) hK m (a + 1) N (by omega) (by omega)
    have hlt : decide ((a : Int) < (L.n : Int)) = true := by simp; omega
    have w := wrn (show a < 1152921504606846976 by omega)
    have c4 := chk4 T h8 (K := K) ha L.n 0 K (by omega) (by omega)
    simp only [Int.natCast_zero] at c4
    rw [L_ref01_Check_5_0_eq, isSl_sl, toSl_sl, T.len]
    simp only [when_true', hlt, ifB_true, c4, anyI]
    cases anyI (badAB L.leq L.n a) L.n 0 with
    | true => simp only [onL_some, X_ref01_Check_4_0_eq, X_ref01_Check_5_1_eq, Bool.true_or]
    | false => simp only [onL_some, X_ref01_Check_4_1_eq, w, ih, Bool.false_or]
theorem bad_iff {n : Nat} {g : Tb} : anyI (fun a => anyI (badAB g n a) n 0) n 0 = !(!(tws2 g n 0) && fillB g n) := by
  have fl : ∀ (f : Tb) a b, (∀ x y, x < n → y < n → f x y = true → f y x = true → x = y) → ((flt (lubC f n a b) n 0).length = 1 ↔ 0 ≤ ovr f n a b n 0) := fun f a b an => by
    rcases ovr_spec (f := f) (n := n) (a := a) (b := b) (m := n) (c := 0) (by omega) with ⟨r, h1, h2⟩ | ⟨h1, h2⟩
    · have : flt (lubC f n a b) n 0 = [r] := by
        refine flt_one ((lubC_iff h2.1).2 h2) (fun x _ hx q => ?_) (by omega) (by have := h2.1; omega)
        have q := (lubC_iff (by omega)).1 q
        exact an x r q.1 h2.1 (q.2.2.2 r h2.1 h2.2.1 h2.2.2.1) (h2.2.2.2 x q.1 q.2.1 q.2.2.1)
      rw [this, h1]; simp
    · have : flt (lubC f n a b) n 0 = [] := flt_none fun x _ hx => by
        cases q : lubC f n a b x with
        | false => rfl
        | true => exact absurd ((lubC_iff (by omega)).1 q) (h2 x (by omega))
      rw [this, h1]; simp
  cases htw : tws2 g n 0 with
  | true =>
    simp only [Bool.not_true, Bool.false_and, Bool.not_false]
    rw [tws2_iff] at htw
    obtain ⟨b, _, hb, h3⟩ := htw
    obtain ⟨c, _, hc, x, y⟩ := tws1_iff.1 h3
    exact anyI_iff.2 ⟨b, by omega, hb, anyI_iff.2 ⟨c, by omega, by omega, by
      have : (b == c) = false := by simp; omega
      simp [badAB, this, x, y]⟩⟩
  | false =>
    have an := tws_anti.1 htw
    simp only [Bool.not_false, Bool.true_and]
    cases hf : fillB g n with
    | true =>
      have F := fillB_iff.1 hf
      rw [Bool.not_true, Bool.eq_false_iff]
      intro h
      obtain ⟨a, _, ha, h⟩ := anyI_iff.1 h
      obtain ⟨b, _, hb, h⟩ := anyI_iff.1 h
      have F1 := F a b (by omega) (by omega)
      have l1 := (fl g a b an).2 F1.1
      have l2 := (fl (trn g) a b (fun x y hx hy p q => an x y hx hy q p)).2 F1.2
      simp only [badAB, l1, l2, Bool.or_eq_true, Bool.and_eq_true] at h
      rcases h with h | h
      · have := an a b (by omega) (by omega) h.2.1 h.2.2
        subst this
        simp at h
      · simp at h
    | false =>
      rw [Bool.not_false]
      have : ∃ a b, a < n ∧ b < n ∧ ¬ (0 ≤ ovr g n a b n 0 ∧ 0 ≤ ovr (trn g) n a b n 0) := by
        apply Classical.byContradiction
        intro hc
        have : fillB g n = true := fillB_iff.2 fun a b ha hb => by
          apply Classical.byContradiction
          intro h
          exact hc ⟨a, b, ha, hb, h⟩
        rw [this] at hf; cases hf
      obtain ⟨a, b, ha, hb, h⟩ := this
      refine anyI_iff.2 ⟨a, by omega, by omega, anyI_iff.2 ⟨b, by omega, by omega, ?_⟩⟩
      by_cases q : 0 ≤ ovr g n a b n 0
      · have l2 : ¬ (flt (lubC (trn g) n a b) n 0).length = 1 := fun e => h ⟨q, (fl (trn g) a b (fun x y hx hy p q => an x y hx hy q p)).1 e⟩
        simp [badAB, l2]
      · have l1 : ¬ (flt (lubC g n a b) n 0).length = 1 := fun e => q ((fl g a b an).1 e)
        simp [badAB, l1]
theorem Check_ok {names : List ByteArray} {pairs : List (Int × Int)} (pp : List FV) {g : Tb} (hg : namedB names = true → Clo names.length (layP (diag names.length) pairs) g) : Rt N_ref01_Check [.fz (polE names pairs pp)] = some ([.fz (.int .i64 (newC names pairs g))], []) := by
  refine rt_call A_ref01_Check rfl rfl 70 ?_
  unfold polE
  rw [E_ref01_Check, strs_len]
  by_cases h1 : 1 ≤ names.length
  · have d1 : decide ((names.length : Int) < 1) = false := by simp; omega
    by_cases h2 : names.length ≤ 8
    · have d2 : decide ((names.length : Int) > 8) = false := by simp; omega
      have hnB : namedB names = allI (fun i => nmB (names.getD i ByteArray.empty) && !anyI (isN names i) i 0) names.length 0 := by simp [namedB, h1, h2]
      have c2 := chk2 names pairs pp (K := 70) h2 (by omega) rfl names.length 0 70 (by omega) (by omega)
      simp only [Int.natCast_zero] at c2
      rw [← hnB] at c2
      rw [d1, d2, ifB_false, ifB_false, jump_true, J_ref01_Check_7_0_eq, c2]
      cases hq : namedB names with
      | false => simp only [newC, hq]
      | true =>
        simp only [X_ref01_Check_2_0_eq, prs_len]
        by_cases h3 : pairs.length ≤ 64
        · have d3 : decide ((pairs.length : Int) > 64) = false := by simp; omega
          have c3 := chk3 names pairs pp (K := 70) h2 rfl h3 pairs.length 0 70 (by omega) (by omega)
          simp only [Int.natCast_zero, List.drop_zero] at c3
          have hl : laidB names.length pairs = pairs.all (inP names.length) := by simp [laidB, h3]
          rw [← hl] at c3
          rw [d3, ifB_false, c3]
          cases hq2 : laidB names.length pairs with
          | false => simp only [newC, hq, hq2]
          | true =>
            have hc := hg hq
            have T := tab_is (by rw [← hl]; exact hq2) hc
            have ht := Table_ok pp h2 hq2
            unfold polE at ht
            have c5 := chk5 T h2 (K := 70) (by omega) (ltR names.length g).n 0 70 (by omega) (by show names.length < 70; omega)
            simp only [Int.natCast_zero] at c5
            simp only [X_ref01_Check_3_1_eq, ht, onR_some, List.isEmpty_nil, allF_cons, allF_nil, Bool.and_true, when_true', List.getD_cons_zero, toF_fz, c5]
            show some ([TV.fz (.int .i64 (match anyI (fun a => anyI (badAB g names.length a) names.length 0) names.length 0 with | true => (9 : Int) | false => 0))], []) = _
            rw [bad_iff]
            simp only [newC, hq, hq2]
            cases tws2 g names.length 0 <;> cases fillB g names.length <;> rfl
        · have d3 : decide ((pairs.length : Int) > 64) = true := by simp; omega
          have hl : laidB names.length pairs = false := by simp [laidB, h3]
          rw [d3, ifB_true]
          simp only [newC, hq, hl]
    · have d2 : decide ((names.length : Int) > 8) = true := by simp; omega
      have : namedB names = false := by simp [namedB, h2]
      simp [d1, d2, newC, this]
  · have d1 : decide ((names.length : Int) < 1) = true := by simp; omega
    have : namedB names = false := by simp [namedB, h1]
    simp [d1, newC, this]
end Go.Ab
