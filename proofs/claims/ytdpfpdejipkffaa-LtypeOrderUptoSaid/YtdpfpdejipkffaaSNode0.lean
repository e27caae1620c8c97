/- Nodes, told; how the reference counts them. -/
import Derived.Test.YtdpfpdejipkffaaSJvB
namespace Go.Ab
set_option linter.unusedVariables false
set_option linter.unusedSimpArgs false

inductive ND where
  | mk (a d k c s : Int) (t : ByteArray) (is : List ND) (ks : List ByteArray)
  deriving Inhabited

mutual
def ND.enc : ND → FV
  | .mk a d k c s t is ks => .ag [.int .i64 a, .int .i64 d, .int .i64 k, .int .i64 c, .int .i64 s, .str t, .sl (ND.encs is), .sl (ks.map .str)]
def ND.encs : List ND → List FV
  | [] => []
  | v :: r => v.enc :: ND.encs r
end
theorem ND.encs_eq : ∀ l : List ND, ND.encs l = l.map ND.enc
  | [] => by simp [ND.encs]
  | v :: r => by simp [ND.encs, ND.encs_eq r]
theorem ND.enc_mk (a d k c s : Int) (t : ByteArray) (is : List ND) (ks : List ByteArray) : (ND.mk a d k c s t is ks).enc = .ag [.int .i64 a, .int .i64 d, .int .i64 k, .int .i64 c, .int .i64 s, .str t, .sl (is.map ND.enc), .sl (ks.map .str)] := by
  simp [ND.enc, ND.encs_eq]
@[simp] theorem ND.enc_fits (v : ND) : v.enc.fits 8 true = true := by
  obtain ⟨a, d, k, c, s, t, is, ks⟩ := v
  simp [ND.enc]
@[simp] theorem ND.all_fits (l : List ND) : (l.map ND.enc).all (FV.fits 8 true) = true := Ab.all_fits _ (fun v => v.enc_fits) l
def ND.a : ND → Int | .mk a _ _ _ _ _ _ _ => a
def ND.d : ND → Int | .mk _ d _ _ _ _ _ _ => d
def ND.k : ND → Int | .mk _ _ k _ _ _ _ _ => k
def ND.is : ND → List ND | .mk _ _ _ _ _ _ is _ => is
def ND.ks : ND → List ByteArray | .mk _ _ _ _ _ _ _ ks => ks

/-- No list and no text in it is great. -/
inductive ND.Sm : ND → Prop where
  | mk {a d k c s : Int} {t : ByteArray} {is : List ND} {ks : List ByteArray} (hi : is.length ≤ 134217728) (hk : ks.length ≤ 134217728) (ht : t.size ≤ 134217728) (hs : ∀ s ∈ ks, s.size ≤ 134217728) (h : ∀ v ∈ is, v.Sm) : (ND.mk a d k c s t is ks).Sm

mutual
def ND.cnt : ND → Nat
  | .mk _ _ _ _ _ _ is _ => 1 + ND.cnts is
def ND.cnts : List ND → Nat
  | [] => 0
  | v :: r => v.cnt + ND.cnts r
end
theorem ND.cnt_mk (a d k c s : Int) (t : ByteArray) (is : List ND) (ks : List ByteArray) : (ND.mk a d k c s t is ks).cnt = 1 + ND.cnts is := by simp [ND.cnt]
theorem ND.cnts_drop {l : List ND} {i : Nat} (h : i < l.length) : ND.cnts (l.drop i) = (l[i]).cnt + ND.cnts (l.drop (i + 1)) := by
  rw [drop_cons h, ND.cnts]

def capN (k c most : Int) : Int := if k ≥ most then k else if k + c ≥ most then most else k + c
theorem capN_zero {x m : Int} (h : x ≤ m) : capN x ((0 : Nat) : Int) m = x := by
  unfold capN
  by_cases h1 : x ≥ m
  · rw [if_pos h1]
  · rw [if_neg h1, if_neg (by omega)]; omega
theorem capN_add {x m : Int} (c1 c2 : Nat) : capN (capN x c1 m) c2 m = capN x ((c1 + c2 : Nat) : Int) m := by
  unfold capN
  by_cases h1 : x ≥ m
  · simp only [if_pos h1]
  · by_cases h2 : x + c1 ≥ m
    · rw [if_neg h1, if_pos h2, if_pos (Int.le_refl m), if_neg h1, if_pos (by omega)]
    · rw [if_neg h1, if_neg h2, if_neg h2, if_neg h1]
      by_cases h3 : x + c1 + c2 ≥ m
      · rw [if_pos h3, if_pos (by omega)]
      · rw [if_neg h3, if_neg (by omega)]; omega
theorem capN_one {x m : Int} (c : Nat) (h : ¬ x ≥ m) : capN (x + 1) c m = capN x ((1 + c : Nat) : Int) m := by
  unfold capN
  rw [if_neg h]
  by_cases h1 : x + 1 ≥ m
  · rw [if_pos h1, if_pos (by omega)]; omega
  · rw [if_neg h1]
    by_cases h2 : x + 1 + c ≥ m
    · rw [if_pos h2, if_pos (by omega)]
    · rw [if_neg h2, if_neg (by omega)]; omega
theorem capN_le {x m : Int} (c : Nat) (h : x ≤ m) (h0 : 0 ≤ x) : 0 ≤ capN x c m ∧ capN x c m ≤ m := by
  unfold capN
  by_cases h1 : x ≥ m
  · rw [if_pos h1]; omega
  · rw [if_neg h1]
    by_cases h2 : x + c ≥ m
    · rw [if_pos h2]; omega
    · rw [if_neg h2]; omega
theorem nsize_ok {v : ND} (hv : v.Sm) : ∀ n m : Int, 0 ≤ n → m ≤ 100000 → Rt N_ref09_Size [.fz v.enc, .fz (.int .i64 n), .fz (.int .i64 m)] = some ([.fz (.int .i64 (capN n v.cnt m))], []) := by
  induction hv with
  | @mk a d k c s t is ks hi hk ht hs h ih =>
    intro n m hn hm
    have loop : ∀ (j : Nat) (x : Int) (i : Nat), 0 ≤ x → x ≤ m → i + j = is.length → L_ref09_Size_1_0 Rt (is.length + 1) true (j + 1) x m i a d k c s t (is.map ND.enc) (ks.map .str) = some (.exit 0, X_ref09_Size_1_0 (capN x (ND.cnts (is.drop i)) m)) := by
      intro j
      induction j with
      | zero =>
        intro x i hx hxm hij
        rw [L_ref09_Size_1_0_eq, List.drop_eq_nil_of_le (by omega)]
        have e : capN x ((ND.cnts [] : Nat) : Int) m = x := by simpa [ND.cnts] using capN_zero hxm
        rw [e]
        simp [show ¬ ((i : Int) < (is.length : Int)) by omega]
      | succ j jh =>
        intro x i hx hxm hij
        have hl : i < is.length := by omega
        have h1 := ih is[i] (List.getElem_mem hl) x m hx hm
        have hc := capN_le (is[i]).cnt hxm hx
        have h2 := jh (capN x (is[i]).cnt m) (i + 1) hc.1 hc.2 (by omega)
        have e : capN (capN x (is[i]).cnt m) ((ND.cnts (is.drop (i + 1)) : Nat) : Int) m = capN x ((ND.cnts (is.drop i) : Nat) : Int) m := by
          rw [ND.cnts_drop hl]; exact capN_add _ _
        rw [e] at h2
        push_cast at h2
        rw [L_ref09_Size_1_0_eq]
        have hw : IntKind.wrap .i64 ((i : Int) + 1) = (i : Int) + 1 := wrap64 (by omega) (by omega)
        simp [show (i : Int) < (is.length : Int) by omega, List.getElem?_eq_getElem hl, h1, onR_some, hw, h2]
    by_cases hnm : n ≥ m
    · have e : capN n ((ND.mk a d k c s t is ks).cnt : Int) m = n := by unfold capN; rw [if_pos hnm]
      rw [e]
      refine rt_call A_ref09_Size rfl rfl 0 ?_
      rw [ND.enc_mk, E_ref09_Size]
      simp [hnm]
    · have hr := loop is.length (IntKind.wrap .i64 (n + 1)) 0 (by rw [wrap64 (by omega) (by omega)]; omega) (by rw [wrap64 (by omega) (by omega)]; omega) (by omega)
      have e : capN (n + 1) ((ND.cnts (is.drop 0) : Nat) : Int) m = capN n ((ND.mk a d k c s t is ks).cnt : Int) m := by
        rw [ND.cnt_mk, List.drop_zero]; exact capN_one _ hnm
      rw [show ((0 : Nat) : Int) = 0 from rfl] at hr
      refine rt_call A_ref09_Size rfl rfl (is.length + 1) ?_
      rw [ND.enc_mk, E_ref09_Size]
      simp only [show decide (n ≥ m) = false by simpa using hnm, ifB_false]
      rw [hr, onL_some, X_ref09_Size_1_0_eq, wrap64 (by omega) (by omega), e]
theorem nflat_tot {v : ND} (hv : v.Sm) : ∀ n : Int, ∃ b : Bool, Rt N_ref09_Flat [.fz v.enc, .fz (.int .i64 n)] = some ([.fz (.bool b)], []) := by
  induction hv with
  | @mk a d k c s t is ks hi hk ht hs h ih =>
    intro n
    have loop : ∀ (j : Nat) (i : Nat), i + j = is.length → ∃ b : Bool, onL (L_ref09_Flat_1_0 Rt (is.length + 1) true (j + 1) n i a d k c s t (is.map ND.enc) (ks.map .str)) (K_ref09_Flat_1 Rt (is.length + 1) true) = some ([.fz (.bool b)], []) := by
      intro j
      induction j with
      | zero =>
        intro i hij
        refine ⟨true, ?_⟩
        rw [L_ref09_Flat_1_0_eq]
        simp [show ¬ ((i : Int) < (is.length : Int)) by omega, onL_some, X_ref09_Flat_1_1_eq]
      | succ j jh =>
        intro i hij
        have hl : i < is.length := by omega
        obtain ⟨b1, h1⟩ := ih is[i] (List.getElem_mem hl) (IntKind.wrap .i64 (n - 1))
        obtain ⟨b, h2⟩ := jh (i + 1) (by omega)
        push_cast at h2
        have hw : IntKind.wrap .i64 ((i : Int) + 1) = (i : Int) + 1 := wrap64 (by omega) (by omega)
        rw [L_ref09_Flat_1_0_eq]
        cases b1 with
        | true => exact ⟨b, by simp [show (i : Int) < (is.length : Int) by omega, List.getElem?_eq_getElem hl, h1, onR_some, hw, h2]⟩
        | false => exact ⟨false, by simp [show (i : Int) < (is.length : Int) by omega, List.getElem?_eq_getElem hl, h1, onR_some, onL_some, X_ref09_Flat_1_0_eq]⟩
    by_cases hn : n < 0
    · refine ⟨false, rt_call A_ref09_Flat rfl rfl 0 ?_⟩
      rw [ND.enc_mk, E_ref09_Flat]
      simp [hn]
    · obtain ⟨b, hb⟩ := loop is.length 0 (by omega)
      refine ⟨b, rt_call A_ref09_Flat rfl rfl (is.length + 1) ?_⟩
      rw [ND.enc_mk, E_ref09_Flat]
      rw [show decide (n < 0) = false by simpa using hn, ifB_false]
      exact hb
theorem nlight_ok {v : ND} (hv : v.Sm) (n : Int) (h0 : 0 ≤ n) (h1 : n ≤ 9999) : ∃ b : Bool, Rt N_ref09_Light [.fz v.enc, .fz (.int .i64 n)] = some ([.fz (.bool b)], []) ∧ (b = true → (v.cnt : Int) ≤ n) := by
  have hsz := nsize_ok hv 0 (n + 1) (by omega) (by omega)
  obtain ⟨b, hb⟩ := nflat_tot hv 60
  obtain ⟨a, d, k, c, s, t, is, ks⟩ := v
  have hE := E_ref09_Light Rt 0 true a d k c s t (is.map ND.enc) (ks.map .str) n
  rw [wrap64 (show -9223372036854775808 ≤ n + 1 by omega) (by omega), ← ND.enc_mk, hsz, hb] at hE
  by_cases q : capN 0 (ND.mk a d k c s t is ks).cnt (n + 1) ≤ n
  · refine ⟨b, rt_call A_ref09_Light rfl rfl 0 (hE.trans ?_), fun _ => ?_⟩
    · simp only [onR_some, List.isEmpty_nil, allF_cons, allF_nil, Bool.and_true, when_true', List.getD_cons_zero, toF_fz, isInt_int, toInt_int, decide_eq_true q, ifB_true, isBool_bool, toBool_bool]
    · unfold capN at q
      split at q
      · omega
      · split at q <;> omega
  · refine ⟨false, rt_call A_ref09_Light rfl rfl 0 (hE.trans ?_), fun h => by cases h⟩
    simp only [onR_some, List.isEmpty_nil, allF_cons, allF_nil, Bool.and_true, when_true', List.getD_cons_zero, toF_fz, isInt_int, toInt_int, decide_eq_false q, ifB_false]
end Go.Ab
