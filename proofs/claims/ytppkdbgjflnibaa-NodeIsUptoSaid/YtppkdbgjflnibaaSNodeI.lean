/- Whether a node may be, by the program: it is the reference's. -/
import Derived.Test.YtppkdbgjflnibaaSNodeP
import Derived.Test.YtppkdbgjflnibaaSUtf3
namespace Go.Ab
set_option linter.unusedVariables false
set_option linter.unusedSimpArgs false
set_option linter.unusedSectionVars false

theorem numIs_ok (c s : Int) : Rt N_num_Is [.fz (.ag [.int .i64 c, .int .i64 s])] = some ([.fz (.bool (num4B c s))], []) := by
  refine rt_call A_num_Is rfl rfl 0 ?_
  rw [E_num_Is]
  simp only [jump_true, J_num_Is_1_0_eq]
  unfold num4B
  generalize decide (s < 0) = b1
  generalize decide (s > 9) = b2
  generalize decide (c ≥ 1000000000000000) = b3
  generalize decide (c ≤ (-1000000000000000)) = b4
  generalize (s == 0) = b5
  cases b1 <;> cases b2 <;> cases b3 <;> cases b4 <;> cases b5 <;> first | exact Eq.refl _ | simp

def bareB (a1 a2 a3 a4 : Bool) (c s : Int) (t : ByteArray) (li lk : Int) : Bool :=
  (a1 || ((c == 0) && (s == 0))) && ((a2 || (t.toList == (⟨#[]⟩ : ByteArray).toList)) && ((a3 || (li == 0)) && (a4 || (lk == 0))))


theorem nbare_ok (a d k c s : Int) (t : ByteArray) (is : List ND) (ks : List ByteArray) (a1 a2 a3 a4 : Bool) :
    Rt N_node_bare [.fz (ND.mk a d k c s t is ks).enc, .fz (.bool a1), .fz (.bool a2), .fz (.bool a3), .fz (.bool a4)] = some ([.fz (.bool (bareB a1 a2 a3 a4 c s t is.length ks.length))], []) := by
  refine rt_call A_node_bare rfl rfl 0 ?_
  rw [ND.enc_mk, E_node_bare]
  simp only [List.length_map, Bool.and_true]
  unfold bareB
  generalize ((c == 0) && (s == 0)) = b1
  generalize (t.toList == (⟨#[]⟩ : ByteArray).toList) = b2
  generalize ((is.length : Int) == 0) = b3
  generalize ((ks.length : Int) == 0) = b4
  cases a1 <;> cases a2 <;> cases a3 <;> cases a4 <;> cases b1 <;> cases b2 <;> cases b3 <;> cases b4 <;> exact Eq.refl _

section
variable (ks : List ByteArray) (hks : ∀ s ∈ ks, s.size ≤ 8796093022208) (hlk : ks.length ≤ 1152921504606846976)
include hks hlk

theorem nrising_ok : Rt N_node_rising [.fz (.sl (ks.map .str))] = some ([.fz (.bool (keysOk none ks))], []) := by
  have loop : ∀ (K n f i : Nat), n < f → ks.length ≤ i + n → i ≤ ks.length →
    onL (L_node_rising_1_0 Rt K true f (ks.map .str) (ks.map .str) ks.length i) (K_node_rising_1 Rt K true) = some ([.fz (.bool (keysOk (prevK ks i) (ks.drop i)))], []) := by
    intro K n
    induction n with
    | zero =>
      intro f i hf hn hi
      obtain ⟨f, rfl⟩ : ∃ m, f = m + 1 := ⟨f - 1, by omega⟩
      have e1 : decide ((i : Int) < (ks.length : Int)) = false := by simp; omega
      rw [L_node_rising_1_0_eq, List.drop_eq_nil_of_le (show ks.length ≤ i by omega)]
      simp only [e1, ifB_false, onL_some, keysOk, X_node_rising_1_1_eq]
    | succ n ih =>
      intro f i hf hn hi
      obtain ⟨f, rfl⟩ : ∃ m, f = m + 1 := ⟨f - 1, by omega⟩
      by_cases hl : i < ks.length
      case neg =>
        have e1 : decide ((i : Int) < (ks.length : Int)) = false := by simp; omega
        rw [L_node_rising_1_0_eq, List.drop_eq_nil_of_le (show ks.length ≤ i by omega)]
        simp only [e1, ifB_false, onL_some, keysOk, X_node_rising_1_1_eq]
      case pos =>
        have e1 : decide ((i : Int) < (ks.length : Int)) = true := by simp; omega
        have e2 : decide ((0 : Int) ≤ (i : Int)) = true := by simp
        have ht : Rt N_utf_Valid [.fz (.str ks[i])] = some ([.fz (.bool (textB ks[i]))], []) := valid_ok ks[i] (by have := hks _ (List.getElem_mem hl); omega)
        have hw : IntKind.wrap .i64 ((i : Int) + 1) = ((i + 1 : Nat) : Int) := by rw [wrap64 (by omega) (by omega)]; omega
        have h2 := ih f (i + 1) (by omega) (by omega) (by omega)
        have hp : prevK ks (i + 1) = some ks[i] := by simp [prevK, hl]
        rw [hp] at h2
        rw [L_node_rising_1_0_eq, drop_cons hl]
        simp only [keysOk]
        cases htx : textB ks[i] with
        | false =>
          rw [htx] at ht
          simp only [List.length_map, e1, e2, ifB_true, Bool.and_true, when_true', Int.toNat_natCast, List.getD_eq_getElem?_getD, List.getElem?_map, List.getElem?_eq_getElem hl, Option.map_some, Option.getD_some, fits_str, isStr_str, toStr_str, ht, onR_some, List.isEmpty_nil, allF_cons, allF_nil, List.getElem?_cons_succ, List.getElem?_cons_zero, toF_fz, isBool_bool, toBool_bool, Bool.not_false, onL_some, X_node_rising_1_0_eq, Bool.false_and]
        | true =>
          rw [htx] at ht
          simp only [List.length_map, e1, e2, ifB_true, Bool.and_true, when_true', Int.toNat_natCast, List.getD_eq_getElem?_getD, List.getElem?_map, List.getElem?_eq_getElem hl, Option.map_some, Option.getD_some, fits_str, isStr_str, toStr_str, ht, onR_some, List.isEmpty_nil, allF_cons, allF_nil, List.getElem?_cons_succ, List.getElem?_cons_zero, toF_fz, isBool_bool, toBool_bool, Bool.not_true, ifB_false, hw, Bool.true_and]
          cases i with
          | zero =>
            have e3 : decide (((0 : Nat) : Int) > 0) = false := rfl
            simp only [e3, ifB_false, prevK, Bool.true_and]
            exact h2
          | succ m =>
            have e3 : decide (((m + 1 : Nat) : Int) > 0) = true := by first | (simp; done) | (simp; omega)
            have hw2 : IntKind.wrap .i64 (((m + 1 : Nat) : Int) - 1) = (m : Int) := by rw [wrap64 (by omega) (by omega)]; omega
            have e4 : decide ((0 : Int) ≤ (m : Int)) = true := by simp
            have e5 : decide ((m : Int) < (ks.length : Int)) = true := by simp; omega
            have hm : m < ks.length := by omega
            have hpm : prevK ks (m + 1) = some ks[m] := by simp [prevK, hm]
            rw [hpm]
            simp only [e3, ifB_true, hw2, e4, e5, Bool.and_true, when_true', Int.toNat_natCast, List.getElem?_eq_getElem hm, Option.map_some, Option.getD_some, fits_str, isStr_str, toStr_str]
            have hle : (Op.bytesLess ks[m + 1].toList ks[m].toList || ks[m + 1].toList == ks[m].toList) = leB ks[m + 1] ks[m] := rfl
            rw [hle]
            cases leB ks[m + 1] ks[m] with
            | true => simp only [ifB_true, onL_some, X_node_rising_1_0_eq, Bool.not_true, Bool.false_and]
            | false => simp only [ifB_false, Bool.not_false, Bool.true_and]; exact h2
  refine rt_call A_node_rising rfl rfl (ks.length + 1) ?_
  rw [E_node_rising, List.length_map]
  have := loop (ks.length + 1) ks.length (ks.length + 1) 0 (by omega) (by omega) (by omega)
  rw [List.drop_zero] at this
  exact this
end

theorem text_nil {t : ByteArray} (h : (t.toList == (⟨#[]⟩ : ByteArray).toList) = true) : textB t = true := by
  rw [ByteArray.toList_eq, ByteArray.toList_eq] at h
  have h0 : t.data.toList = [] := by simpa using h
  unfold textB
  rw [h0]
  rfl
theorem keys_nil {ks : List ByteArray} (h : ((ks.length : Int) == 0) = true) : keysOk none ks = true := by
  have h0 : ks = [] := by
    have : (ks.length : Int) = 0 := by simpa using h
    exact List.length_eq_zero_iff.1 (by omega)
  rw [h0]; rfl

def fitsB (k c s : Int) (t : ByteArray) (li : Nat) (ks : List ByteArray) : Bool :=
  if k = 0 ∨ k = 1 ∨ k = 2 then bareB false false false false c s t li ks.length
  else if k = 3 then bareB true false false false c s t li ks.length && num4B c s
  else if k = 4 ∨ k = 7 then bareB false true false false c s t li ks.length && textB t
  else if k = 5 then bareB false false true false c s t li ks.length
  else if k = 6 then bareB false false true true c s t li ks.length && (((ks.length : Int) == (li : Int)) && keysOk none ks)
  else false
theorem fits_ok (a d k c s : Int) (t : ByteArray) (is : List ND) (ks : List ByteArray) (ht : t.size ≤ 134217728) (hs : ∀ s ∈ ks, s.size ≤ 134217728) (hk : ks.length ≤ 134217728) : Rt N_node_fits [.fz (ND.mk a d k c s t is ks).enc] = some ([.fz (.bool (fitsB k c s t is.length ks))], []) := by
  have hR := nrising_ok ks (fun s h => by have := hs s h; omega) (by omega)
  have hN := numIs_ok c s
  have hV : Rt N_utf_Valid [.fz (.str t)] = some ([.fz (.bool (textB t))], []) := valid_ok t (by omega)
  have hB := nbare_ok a d k c s t is ks
  rw [ND.enc_mk] at hB
  refine rt_call A_node_fits rfl rfl 0 ?_
  rw [ND.enc_mk, E_node_fits]
  unfold fitsB
  have J1 : ∀ x : Bool, J_node_fits_1_0 Rt 0 true k x a d k c s t (is.map ND.enc) (ks.map .str) = _ := fun x => J_node_fits_1_0_eq ..
  have J2 : ∀ x : Bool, J_node_fits_2_0 Rt 0 true k x a d k c s t (is.map ND.enc) (ks.map .str) = _ := fun x => J_node_fits_2_0_eq ..
  simp only [hB, hR, hN, hV, onR_some, List.isEmpty_nil, allF_cons, allF_nil, Bool.and_true, when_true', List.getD_cons_zero, toF_fz, isBool_bool, toBool_bool, List.length_map] at J1 J2
  simp only [jump_true, J2, J1]
  have sb : ∀ b x : Bool, ifB b (some ([TV.fz (FV.bool x)], ([] : List LV))) (some ([TV.fz (FV.bool false)], [])) = some ([.fz (.bool (b && x))], []) := fun b x => by cases b <;> rfl
  simp only [sb]
  by_cases h0 : k = 0
  · subst h0; rfl
  by_cases h1 : k = 1
  · subst h1; rfl
  by_cases h2 : k = 2
  · subst h2; rfl
  by_cases h3 : k = 3
  · subst h3; rfl
  by_cases h4 : k = 4
  · subst h4; rfl
  by_cases h5 : k = 5
  · subst h5; rfl
  by_cases h6 : k = 6
  · subst h6; rfl
  by_cases h7 : k = 7
  · subst h7; rfl
  have e0 : (k == 0) = false := by simpa using h0
  have e1 : (k == 1) = false := by simpa using h1
  have e2 : (k == 2) = false := by simpa using h2
  have e3 : (k == 3) = false := by simpa using h3
  have e4 : (k == 4) = false := by simpa using h4
  have e5 : (k == 5) = false := by simpa using h5
  have e6 : (k == 6) = false := by simpa using h6
  have e7 : (k == 7) = false := by simpa using h7
  rw [if_neg (by omega), if_neg h3, if_neg (by omega), if_neg h5, if_neg h6]
  simp only [e0, e1, e2, e3, e4, e5, e6, e7, ifB_false, Bool.false_and]

theorem zs_ok : ∀ n : Nat, isRs (List.replicate n JV.z0) 1 = true
  | 0 => rfl
  | n + 1 => by
    rw [List.replicate_succ, isRs, zs_ok n]
    have h1 : isR JV.z0 1 = true := by decide +kernel
    have h2 : JV.z0.k = 0 := rfl
    rw [h1, h2]; rfl
theorem shape_own (k c s : Int) (t : ByteArray) (li : Nat) (ks : List ByteArray) : (preB k li ks.length && isR (.mk k c s t (List.replicate ks.length JV.z0) ks) 0) = fitsB k c s t li ks := by
  have f1 := @text_nil t
  have f2 := @keys_nil ks
  rw [isR, List.length_replicate, show IntKind.wrap .i64 ((0 : Int) + 1) = 1 from by rw [wrap64 (by omega) (by omega)]; rfl, zs_ok]
  unfold preB fitsB bareB zeroB
  have hbne : ((ks.length : Int) != (li : Int)) = !((ks.length : Int) == (li : Int)) := rfl
  have hbn2 : ((ks.length : Int) != (ks.length : Int)) = false := by simp
  have hc : (c != 0) = !(c == 0) := rfl
  have hs' : (s != 0) = !(s == 0) := rfl
  have hgt : decide ((li : Int) > 0) = !((li : Int) == 0) := by rw [Bool.eq_iff_iff]; simp; omega
  rw [hbne, hbn2, hc, hs', hgt]
  have h6 : ((ks.length : Int) == (li : Int)) = true → ((li : Int) == 0) = ((ks.length : Int) == 0) := fun h => by
    have := beq_iff_eq.1 h; rw [this]
  generalize keysOk none ks = rk at f2 ⊢
  generalize num4B c s = rn
  generalize textB t = rt at f1 ⊢
  generalize ((ks.length : Int) == (li : Int)) = b5 at h6 ⊢
  generalize (c == 0) = b1
  generalize (s == 0) = b2
  generalize (t.toList == (⟨#[]⟩ : ByteArray).toList) = b3 at f1 ⊢
  generalize ((li : Int) == 0) = b4 at h6 ⊢
  generalize ((ks.length : Int) == 0) = b6 at f2 h6 ⊢
  by_cases hk0 : k < 0
  · rw [if_neg (by omega), if_neg (by omega), if_neg (by omega), if_neg (by omega), if_neg (by omega), decide_eq_true hk0]
    simp
  by_cases hk7 : k > 7
  · rw [if_neg (by omega), if_neg (by omega), if_neg (by omega), if_neg (by omega), if_neg (by omega), decide_eq_true hk7]
    simp
  have hkk : k = 0 ∨ k = 1 ∨ k = 2 ∨ k = 3 ∨ k = 4 ∨ k = 5 ∨ k = 6 ∨ k = 7 := by omega
  rcases hkk with rfl | rfl | rfl | rfl | rfl | rfl | rfl | rfl <;> cases b1 <;> cases b2 <;> cases b3 <;> cases b4 <;> cases b5 <;> cases b6 <;> cases rn <;> cases rt <;> cases rk <;> first | rfl | (exact absurd (f1 rfl) (by decide)) | (exact absurd (f2 rfl) (by decide)) | (exact absurd (h6 rfl) (by decide))

/-! What is deep, by the program. -/
def deepP (L : Lt) : Nat → List ND → Nat
  | acc, [] => acc
  | acc, v :: r => deepP L (L.joinI (L.joinI acc v.a) v.d) r
theorem join2_ok {e : FV} {L : Lt} (I : IsLat e L) (acc : Nat) (x y : Int) : Rt N_node_join [.fz (.pt 195 true e 0), .fz (.int .i64 acc), .fz (.sl [.int .i64 x, .int .i64 y])] = some ([.fz (.int .i64 (L.joinI (L.joinI acc x) y))], []) := by
  refine rt_call A_node_join rfl rfl 4 ?_
  have w0 : IntKind.wrap .i64 ((0 : Int) + 1) = 1 := by rw [wrap64 (by omega) (by omega)]; rfl
  have w1 : IntKind.wrap .i64 ((1 : Int) + 1) = 2 := by rw [wrap64 (by omega) (by omega)]; rfl
  rw [E_node_join, L_node_join_1_0_eq]
  have d1 : decide ((0 : Int) < (([FV.int .i64 x, .int .i64 y].length : Nat) : Int)) = true := rfl
  have d2 : decide ((1 : Int) < (([FV.int .i64 x, .int .i64 y].length : Nat) : Int)) = true := rfl
  have d3 : decide ((2 : Int) < (([FV.int .i64 x, .int .i64 y].length : Nat) : Int)) = false := rfl
  have z0 : decide ((0 : Int) ≤ 0) = true := rfl
  have z1 : decide ((0 : Int) ≤ 1) = true := rfl
  have g0 : ([FV.int .i64 x, .int .i64 y]).getD (0 : Int).toNat .nilp = .int .i64 x := rfl
  have g1 : ([FV.int .i64 x, .int .i64 y]).getD (1 : Int).toNat .nilp = .int .i64 y := rfl
  simp only [d1, z0, g0, ifB_true, Bool.and_true, when_true', fits_int, isInt_int, toInt_int, lat_Join I, onR_some, List.isEmpty_nil, allF_cons, allF_nil, List.getD_cons_zero, toF_fz, w0]
  rw [L_node_join_1_0_eq]
  simp only [d2, z1, g1, ifB_true, Bool.and_true, when_true', fits_int, isInt_int, toInt_int, lat_Join I, onR_some, List.isEmpty_nil, allF_cons, allF_nil, List.getD_cons_zero, toF_fz, w1]
  rw [L_node_join_1_0_eq]
  simp only [d3, ifB_false, onL_some, X_node_join_1_0_eq]
theorem nd_cells (v : ND) : FV.isAg 8 v.enc = true ∧ FV.cell v.enc 0 = .int .i64 v.a ∧ FV.cell v.enc 1 = .int .i64 v.d ∧ FV.cell v.enc 2 = .int .i64 v.k ∧ FV.cell v.enc 6 = .sl (v.is.map ND.enc) := by
  obtain ⟨a, d, k, c, s, t, is, ks⟩ := v
  rw [ND.enc_mk]; exact ⟨rfl, rfl, rfl, rfl, rfl⟩
theorem deepP_ok {e : FV} {L : Lt} (I : IsLat e L) (acc : Nat) (is : List ND) (hi : is.length ≤ 134217728) : Rt N_node_deep [.fz (.pt 195 true e 0), .fz (.int .i64 acc), .fz (.sl (is.map ND.enc))] = some ([.fz (.int .i64 (deepP L acc is))], []) := by
  have loop : ∀ (j : Nat) (i acc : Nat), i + j = is.length → L_node_deep_1_0 Rt (is.length + 1) true (j + 1) e acc (is.map ND.enc) is.length i = some (.exit 0, X_node_deep_1_0 (deepP L acc (is.drop i) : Nat)) := by
    intro j
    induction j with
    | zero =>
      intro i acc hij
      rw [L_node_deep_1_0_eq, List.drop_eq_nil_of_le (by omega)]
      simp [show ¬ ((i : Int) < (is.length : Int)) by omega, deepP]
    | succ j jh =>
      intro i acc hij
      have hl : i < is.length := by omega
      obtain ⟨n1, n2, n3, _⟩ := nd_cells is[i]
      have h1 := join2_ok I acc (is[i]).a (is[i]).d
      have h2 := jh (i + 1) (L.joinI (L.joinI acc (is[i]).a) (is[i]).d) (by omega)
      push_cast at h2
      have hw : IntKind.wrap .i64 ((i : Int) + 1) = (i : Int) + 1 := wrap64 (by omega) (by omega)
      rw [L_node_deep_1_0_eq, drop_cons hl, deepP]
      simp [show (i : Int) < (is.length : Int) by omega, List.getElem?_eq_getElem hl, n1, n2, n3, h1, onR_some, hw, h2]
  have l0 := loop is.length 0 acc (by omega)
  rw [show ((0 : Nat) : Int) = 0 from rfl, List.drop_zero] at l0
  refine rt_call A_node_deep rfl rfl (is.length + 1) ?_
  rw [E_node_deep, List.length_map, l0, onL_some, X_node_deep_1_0_eq]
theorem deepP_eq {L : Lt} (O : L.Ok) : ∀ (is : List ND) (acc : Nat), acc < L.n → labBs L is = true → rightBs L is = true → deepP L acc is = deepNs L acc is
  | [], acc, _, _, _ => by simp [deepP, deepNs]
  | v :: r, acc, h, hl, hr => by
    simp only [labBs, rightBs, Bool.and_eq_true] at hl hr
    obtain ⟨a, d, k, c, s, t, is, ks⟩ := v
    obtain ⟨x, y, rfl, rfl, hx, hy, hxy⟩ := may_labels O hl.1 hr.1
    have hd : deepN L (ND.mk x y k c s t is ks) = y := by
      have := hr.1
      rw [rightB_mk, Bool.and_eq_true, decide_eq_true_eq] at this
      rw [deepN_mk]; omega
    rw [deepP, deepNs, hd]
    show deepP L (L.joinI (L.joinI acc (x : Int)) (y : Int)) r = _
    have h1 := O.join acc x h hx
    rw [Lt.joinI_nat h hx, Lt.joinI_nat h1 hy]
    have e : L.join (L.join acc x) y = L.join acc y := by
      rw [← O.join_assoc h hx hy]
      have : L.join x y = y := by
        have := O.leq_join hx hy
        rw [hxy] at this
        simpa using this.symm
      rw [this]
    rw [e]
    exact deepP_eq O r _ (O.join acc y h hy) hl.2 hr.2
theorem nodeIs_ok {e : FV} {L : Lt} (I : IsLat e L) {v : ND} (hv : v.Sm) : Rt N_node_Is [.fz (.pt 195 true e 0), .fz v.enc] = some ([.fz (.bool (labB L v && (rightB L v && shapeB (strip v))))], []) := by
  have O := I.ok
  induction hv with
  | @mk a d k c s t is ks hi hk ht hs h ih =>
    have hfit := fits_ok a d k c s t is ks ht hs hk
    have items : ∀ (j : Nat) (i : Nat), i + j = is.length → onL (L_node_Is_1_0 Rt (is.length + 1) true (j + 1) e (is.map ND.enc) is.length i) (K_node_Is_1 Rt (is.length + 1) true) = some ([.fz (.bool ((is.drop i).all fun v => labB L v && (rightB L v && shapeB (strip v))))], []) := by
      intro j
      induction j with
      | zero =>
        intro i hij
        rw [L_node_Is_1_0_eq, List.drop_eq_nil_of_le (by omega)]
        simp [show ¬ ((i : Int) < (is.length : Int)) by omega, onL_some, X_node_Is_1_1_eq]
      | succ j jh =>
        intro i hij
        have hl : i < is.length := by omega
        have h1 := ih is[i] (List.getElem_mem hl)
        have h2 := jh (i + 1) (by omega)
        push_cast at h2
        have hw : IntKind.wrap .i64 ((i : Int) + 1) = (i : Int) + 1 := wrap64 (by omega) (by omega)
        have hg : (is.map ND.enc).getD i .nilp = (is[i]).enc := by simp [hl]
        rw [L_node_Is_1_0_eq, drop_cons hl, List.all_cons]
        simp only [List.length_map, decide_eq_true (show (i : Int) < (is.length : Int) by omega), decide_eq_true (show (0 : Int) ≤ (i : Int) by omega), ifB_true, Bool.and_true, when_true', Int.toNat_natCast, hg, ND.enc_fits, h1, onR_some, List.isEmpty_nil, allF_cons, allF_nil, List.getD_cons_zero, toF_fz, isBool_bool, toBool_bool, hw, h2]
        cases (labB L is[i] && (rightB L is[i] && shapeB (strip is[i]))) with
        | true => simp only [Bool.not_true, ifB_false, Bool.true_and]; exact h2
        | false => simp only [Bool.not_false, ifB_true, onL_some, X_node_Is_1_0_eq, Bool.false_and]
    have i0 := items is.length 0 (by omega)
    rw [show ((0 : Nat) : Int) = 0 from rfl, List.drop_zero] at i0
    have hall : (is.all fun v => labB L v && (rightB L v && shapeB (strip v))) = (labBs L is && (rightBs L is && shapeBs (is.map strip))) := by
      clear items i0 hi ih hfit h
      induction is with
      | nil => rfl
      | cons v r ih =>
        simp only [List.all_cons, labBs, rightBs, List.map_cons, shapeBs, ih]
        cases labB L v <;> cases labBs L r <;> cases rightB L v <;> cases rightBs L r <;> cases shapeB (strip v) <;> cases shapeBs (r.map strip) <;> rfl
    rw [hall] at i0
    have hgoal : (labB L (.mk a d k c s t is ks) && (rightB L (.mk a d k c s t is ks) && shapeB (strip (.mk a d k c s t is ks)))) = (L.is a && (fitsB k c s t is.length ks && (decide (d = (deepNs L a.toNat is : Int)) && (labBs L is && (rightBs L is && shapeBs (is.map strip)))))) := by
      rw [labB_mk, rightB_mk, strip_mk, shapeB_mk, List.length_map, ← shape_own]
      generalize isR (.mk k c s t (List.replicate ks.length JV.z0) ks) 0 = x1
      generalize preB k is.length ks.length = x2
      cases L.is a <;> cases labBs L is <;> cases rightBs L is <;> cases decide (d = (deepNs L a.toNat is : Int)) <;> cases x1 <;> cases x2 <;> cases shapeBs (is.map strip) <;> rfl
    rw [hgoal]
    refine rt_call A_node_Is rfl rfl (is.length + 1) ?_
    rw [ND.enc_mk] at hfit ⊢
    rw [E_node_Is, lat_Is I]
    cases ha : L.is a with
    | false => simp only [onR_some, onL_some, List.isEmpty_nil, allF_cons, allF_nil, Bool.and_true, Bool.true_and, when_true', List.getD_cons_zero, List.getD_cons_succ, isF_fz, toF_fz, isBool_bool, toBool_bool, isInt_int, toInt_int, isStr_str, toStr_str, isSl_sl, toSl_sl, List.length_cons, List.length_nil, List.all_cons, List.all_nil, lisFz_fz, ltoFz_fz, beq_self_eq_true, jump_true, ifB_true, ifB_false, isF_pv, isPv_pv, toV_pv, isNil_nilp, isNil_pt, isPt_pt, toAg_ag, cell_ag, isAg_ag, fits_ag, Int.toNat_natCast, Bool.not_true, Bool.not_false, fits_int, fits_bool, fits_str, fits_sl, Bool.false_and]
    | true =>
      have han := Lt.is_iff.1 ha
      have hdp := deepP_ok I a.toNat is hi
      rw [Int.toNat_of_nonneg han.1] at hdp
      simp only [onR_some, onL_some, List.isEmpty_nil, allF_cons, allF_nil, Bool.and_true, Bool.true_and, when_true', List.getD_cons_zero, List.getD_cons_succ, isF_fz, toF_fz, isBool_bool, toBool_bool, isInt_int, toInt_int, isStr_str, toStr_str, isSl_sl, toSl_sl, List.length_cons, List.length_nil, List.all_cons, List.all_nil, lisFz_fz, ltoFz_fz, beq_self_eq_true, jump_true, ifB_true, ifB_false, isF_pv, isPv_pv, toV_pv, isNil_nilp, isNil_pt, isPt_pt, toAg_ag, cell_ag, isAg_ag, fits_ag, Int.toNat_natCast, Bool.not_true, Bool.not_false, fits_int, fits_bool, fits_str, fits_sl, hfit, hdp]
      cases hf : fitsB k c s t is.length ks with
      | false => simp only [onR_some, onL_some, List.isEmpty_nil, allF_cons, allF_nil, Bool.and_true, Bool.true_and, when_true', List.getD_cons_zero, List.getD_cons_succ, isF_fz, toF_fz, isBool_bool, toBool_bool, isInt_int, toInt_int, isStr_str, toStr_str, isSl_sl, toSl_sl, List.length_cons, List.length_nil, List.all_cons, List.all_nil, lisFz_fz, ltoFz_fz, beq_self_eq_true, jump_true, ifB_true, ifB_false, isF_pv, isPv_pv, toV_pv, isNil_nilp, isNil_pt, isPt_pt, toAg_ag, cell_ag, isAg_ag, fits_ag, Int.toNat_natCast, Bool.not_true, Bool.not_false, fits_int, fits_bool, fits_str, fits_sl, Bool.false_and]
      | true =>
        simp only [onR_some, onL_some, List.isEmpty_nil, allF_cons, allF_nil, Bool.and_true, Bool.true_and, when_true', List.getD_cons_zero, List.getD_cons_succ, isF_fz, toF_fz, isBool_bool, toBool_bool, isInt_int, toInt_int, isStr_str, toStr_str, isSl_sl, toSl_sl, List.length_cons, List.length_nil, List.all_cons, List.all_nil, lisFz_fz, ltoFz_fz, beq_self_eq_true, jump_true, ifB_true, ifB_false, isF_pv, isPv_pv, toV_pv, isNil_nilp, isNil_pt, isPt_pt, toAg_ag, cell_ag, isAg_ag, fits_ag, Int.toNat_natCast, Bool.not_true, Bool.not_false, fits_int, fits_bool, fits_str, fits_sl]
        by_cases hq : (labBs L is && (rightBs L is && shapeBs (is.map strip))) = true
        · have hq' := hq
          simp only [Bool.and_eq_true] at hq'
          rw [deepP_eq O is a.toNat (by omega) hq'.1 hq'.2.1]
          by_cases hd : d = (deepNs L a.toNat is : Int)
          · have e1 : (d != (deepNs L a.toNat is : Int)) = false := by simp [hd]
            simp only [e1, onR_some, onL_some, List.isEmpty_nil, allF_cons, allF_nil, Bool.and_true, Bool.true_and, when_true', List.getD_cons_zero, List.getD_cons_succ, isF_fz, toF_fz, isBool_bool, toBool_bool, isInt_int, toInt_int, isStr_str, toStr_str, isSl_sl, toSl_sl, List.length_cons, List.length_nil, List.all_cons, List.all_nil, lisFz_fz, ltoFz_fz, beq_self_eq_true, jump_true, ifB_true, ifB_false, isF_pv, isPv_pv, toV_pv, isNil_nilp, isNil_pt, isPt_pt, toAg_ag, cell_ag, isAg_ag, fits_ag, Int.toNat_natCast, Bool.not_true, Bool.not_false, fits_int, fits_bool, fits_str, fits_sl, J_node_Is_2_0_eq, List.length_map, i0, decide_eq_true hd]
          · have e1 : (d != (deepNs L a.toNat is : Int)) = true := by simpa using hd
            simp only [e1, onR_some, onL_some, List.isEmpty_nil, allF_cons, allF_nil, Bool.and_true, Bool.true_and, when_true', List.getD_cons_zero, List.getD_cons_succ, isF_fz, toF_fz, isBool_bool, toBool_bool, isInt_int, toInt_int, isStr_str, toStr_str, isSl_sl, toSl_sl, List.length_cons, List.length_nil, List.all_cons, List.all_nil, lisFz_fz, ltoFz_fz, beq_self_eq_true, jump_true, ifB_true, ifB_false, isF_pv, isPv_pv, toV_pv, isNil_nilp, isNil_pt, isPt_pt, toAg_ag, cell_ag, isAg_ag, fits_ag, Int.toNat_natCast, Bool.not_true, Bool.not_false, fits_int, fits_bool, fits_str, fits_sl, decide_eq_false hd, Bool.false_and]
        · have hq2 : (labBs L is && (rightBs L is && shapeBs (is.map strip))) = false := by simpa using hq
          rw [hq2] at i0
          rw [hq2, Bool.and_false]
          cases hb : (d != (deepP L a.toNat is : Int)) with
          | true => simp only [onR_some, onL_some, List.isEmpty_nil, allF_cons, allF_nil, Bool.and_true, Bool.true_and, when_true', List.getD_cons_zero, List.getD_cons_succ, isF_fz, toF_fz, isBool_bool, toBool_bool, isInt_int, toInt_int, isStr_str, toStr_str, isSl_sl, toSl_sl, List.length_cons, List.length_nil, List.all_cons, List.all_nil, lisFz_fz, ltoFz_fz, beq_self_eq_true, jump_true, ifB_true, ifB_false, isF_pv, isPv_pv, toV_pv, isNil_nilp, isNil_pt, isPt_pt, toAg_ag, cell_ag, isAg_ag, fits_ag, Int.toNat_natCast, Bool.not_true, Bool.not_false, fits_int, fits_bool, fits_str, fits_sl]
          | false => simp only [onR_some, onL_some, List.isEmpty_nil, allF_cons, allF_nil, Bool.and_true, Bool.true_and, when_true', List.getD_cons_zero, List.getD_cons_succ, isF_fz, toF_fz, isBool_bool, toBool_bool, isInt_int, toInt_int, isStr_str, toStr_str, isSl_sl, toSl_sl, List.length_cons, List.length_nil, List.all_cons, List.all_nil, lisFz_fz, ltoFz_fz, beq_self_eq_true, jump_true, ifB_true, ifB_false, isF_pv, isPv_pv, toV_pv, isNil_nilp, isNil_pt, isPt_pt, toAg_ag, cell_ag, isAg_ag, fits_ag, Int.toNat_natCast, Bool.not_true, Bool.not_false, fits_int, fits_bool, fits_str, fits_sl, J_node_Is_2_0_eq, List.length_map, i0]
end Go.Ab
