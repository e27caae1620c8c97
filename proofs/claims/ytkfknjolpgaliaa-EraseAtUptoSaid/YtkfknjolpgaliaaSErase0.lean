/- Nodes erased, by the program. -/
import Derived.Test.YtkfknjolpgaliaaSNodeD
namespace Go.Ab
set_option linter.unusedVariables false
set_option linter.unusedSimpArgs false
set_option linter.unusedSectionVars false

def holeN (L : Lt) : ND := .mk L.top L.top 8 0 0 ⟨#[]⟩ [] []
mutual
def und (L : Lt) (a : Int) : Nat → ND → ND
  | up, .mk x d k c s t is ks => if L.leqI (L.joinI up x) a = true then .mk (L.joinI up x) (deepP L (L.joinI up x) (unds L a (L.joinI up x) is)) k c s t (unds L a (L.joinI up x) is) ks else holeN L
def unds (L : Lt) (a : Int) : Nat → List ND → List ND
  | _, [] => []
  | up, v :: r => und L a up v :: unds L a up r
end
theorem unds_eq (L : Lt) (a : Int) (up : Nat) : ∀ l : List ND, unds L a up l = l.map (und L a up)
  | [] => by simp [unds]
  | v :: r => by simp [unds, unds_eq L a up r]
theorem und_mk (L : Lt) (a : Int) (up : Nat) (x d k c s : Int) (t : ByteArray) (is : List ND) (ks : List ByteArray) : und L a up (.mk x d k c s t is ks) = if L.leqI (L.joinI up x) a = true then .mk (L.joinI up x) (deepP L (L.joinI up x) (is.map (und L a (L.joinI up x)))) k c s t (is.map (und L a (L.joinI up x))) ks else holeN L := by
  simp [und, unds_eq]
theorem hole_sm (L : Lt) : (holeN L).Sm := .mk (by simp) (by simp) (by simp [ByteArray.size]) (fun s h => by cases h) (fun v h => by cases h)
theorem und_sm {L : Lt} {a : Int} {v : ND} (hv : v.Sm) : ∀ up : Nat, (und L a up v).Sm := by
  induction hv with
  | @mk x d k c s t is ks hi hk ht hs h ih =>
    intro up
    rw [und_mk]
    split
    · exact .mk (by simpa using hi) hk ht hs (fun v hv => by obtain ⟨y, hy, rfl⟩ := List.mem_map.1 hv; exact ih y hy _)
    · exact hole_sm L
theorem set_mix {α : Type} {l : List α} {z : α} {n i : Nat} (hl : l.length = n) (hi : i < n) : (l.take i ++ List.replicate (n - i) z).set i (l[i]'(by omega)) = l.take (i + 1) ++ List.replicate (n - (i + 1)) z := by
  apply List.ext_getElem
  · simp; omega
  · intro j h1 h2
    rw [List.getElem_set]
    by_cases e : i = j
    · subst e
      rw [if_pos rfl, List.getElem_append_left (by simp; omega), List.getElem_take]
    · rw [if_neg e]
      by_cases q : j < i
      · rw [List.getElem_append_left (by simp; omega), List.getElem_append_left (by simp; omega), List.getElem_take, List.getElem_take]
      · rw [List.getElem_append_right (by simp; omega), List.getElem_append_right (by simp; omega)]
        simp
theorem array_ok {e : FV} {L : Lt} (I : IsLat e L) (acc : Nat) (is : List ND) (hi : is.length ≤ 134217728) : Rt N_node_Array [.fz (.pt 195 true e 0), .fz (.int .i64 acc), .fz (.sl (is.map ND.enc))] = some ([.fz (ND.mk acc (deepP L acc is) 5 0 0 ⟨#[]⟩ is []).enc], []) := by
  have hd := deepP_ok I acc is hi
  have hro : (decide (((0 : Nat) + (is.map ND.enc).length) * 104 ≤ roomy) && decide ((0 : Nat) + (is.map ND.enc).length ≤ roomy)) = true := by
    have : roomy = 140737488355328 := rfl
    simp; omega
  refine rt_call A_node_Array rfl rfl 0 ((E_node_Array Rt 0 true e acc _).trans ?_)
  simp only [hd, ND.all_fits, hro, onR_some, onL_some, List.isEmpty_nil, allF_cons, allF_nil, Bool.and_true, Bool.true_and, when_true', List.getD_cons_zero, List.getD_cons_succ, isF_fz, toF_fz, isBool_bool, toBool_bool, isInt_int, toInt_int, isStr_str, toStr_str, isSl_sl, toSl_sl, List.length_cons, List.length_nil, List.all_cons, List.all_nil, lisFz_fz, ltoFz_fz, beq_self_eq_true, jump_true, ifB_true, ifB_false, isF_pv, isPv_pv, toV_pv, isNil_nilp, isNil_pt, isPt_pt, toAg_ag, cell_ag, isAg_ag, fits_ag, Int.toNat_natCast, Bool.not_true, Bool.not_false, fits_int, fits_bool, fits_str, fits_sl, ND.enc_mk, List.map_nil]
theorem holeP_ok {e : FV} {L : Lt} (I : IsLat e L) : Rt N_erase_hole [.fz (.pt 195 true e 0)] = some ([.fz (holeN L).enc], []) := by
  refine rt_call A_erase_hole rfl rfl 0 ((E_erase_hole Rt 0 true e).trans ?_)
  simp only [lat_Top I, onR_some, onL_some, List.isEmpty_nil, allF_cons, allF_nil, Bool.and_true, Bool.true_and, when_true', List.getD_cons_zero, List.getD_cons_succ, isF_fz, toF_fz, isBool_bool, toBool_bool, isInt_int, toInt_int, isStr_str, toStr_str, isSl_sl, toSl_sl, List.length_cons, List.length_nil, List.all_cons, List.all_nil, lisFz_fz, ltoFz_fz, beq_self_eq_true, jump_true, ifB_true, ifB_false, isF_pv, isPv_pv, toV_pv, isNil_nilp, isNil_pt, isPt_pt, toAg_ag, cell_ag, isAg_ag, fits_ag, Int.toNat_natCast, Bool.not_true, Bool.not_false, fits_int, fits_bool, fits_str, fits_sl, holeN, ND.enc_mk, List.map_nil]
def ND.z0 : ND := .mk 0 0 0 0 0 ⟨#[]⟩ [] []
theorem nz0 : FV.ag [.int .i64 0, .int .i64 0, .int .i64 0, .int .i64 0, .int .i64 0, .str ⟨#[]⟩, .sl [], .sl []] = ND.z0.enc := by simp [ND.z0, ND.enc_mk]
theorem roomN {n : Nat} (h : n ≤ 134217728) : (decide ((0 : Int) ≤ (n : Int)) && (decide ((n : Int) ≤ (n : Int)) && (decide (104 * (n : Int) ≤ roomy) && decide ((n : Int) ≤ roomy)))) = true := by
  have : roomy = 140737488355328 := rfl
  rw [Bool.and_eq_true, Bool.and_eq_true, Bool.and_eq_true, decide_eq_true_eq, decide_eq_true_eq, decide_eq_true_eq, decide_eq_true_eq]; omega
theorem roomK (ks : List ByteArray) (h : ks.length ≤ 134217728) : (decide (((0 : Nat) + (ks.map FV.str).length) * 16 ≤ roomy) && decide ((0 : Nat) + (ks.map FV.str).length ≤ roomy)) = true := by
  have : roomy = 140737488355328 := rfl
  simp; omega
theorem under_ok {e : FV} {L : Lt} (I : IsLat e L) (a : Int) {v : ND} (hv : v.Sm) : ∀ up : Nat, Rt N_erase_under [.fz (.pt 195 true e 0), .fz v.enc, .fz (.int .i64 up), .fz (.int .i64 a)] = some ([.fz (und L a up v).enc], []) := by
  induction hv with
  | @mk x d k c s t is ks hi hk ht hs h ih =>
    intro up
    have hj := lat_Join I up x
    have hq := lat_Leq I (L.joinI up x) a
    generalize hu : L.joinI up x = u at hj hq
    have hur : ∀ v, und L a u v = und L a u v := fun _ => rfl
    refine rt_call A_erase_under rfl rfl (is.length + 1) ?_
    rw [ND.enc_mk, E_erase_under, hj, und_mk, hu]
    simp only [onR_some, onL_some, List.isEmpty_nil, allF_cons, allF_nil, Bool.and_true, Bool.true_and, when_true', List.getD_cons_zero, List.getD_cons_succ, isF_fz, toF_fz, isBool_bool, toBool_bool, isInt_int, toInt_int, isStr_str, toStr_str, isSl_sl, toSl_sl, List.length_cons, List.length_nil, List.all_cons, List.all_nil, lisFz_fz, ltoFz_fz, beq_self_eq_true, jump_true, ifB_true, ifB_false, isF_pv, isPv_pv, toV_pv, isNil_nilp, isNil_pt, isPt_pt, toAg_ag, cell_ag, isAg_ag, fits_ag, Int.toNat_natCast, Bool.not_true, Bool.not_false, fits_int, fits_bool, fits_str, fits_sl, hq]
    cases hlq : L.leqI u a with
    | false => simp only [onR_some, onL_some, List.isEmpty_nil, allF_cons, allF_nil, Bool.and_true, Bool.true_and, when_true', List.getD_cons_zero, List.getD_cons_succ, isF_fz, toF_fz, isBool_bool, toBool_bool, isInt_int, toInt_int, isStr_str, toStr_str, isSl_sl, toSl_sl, List.length_cons, List.length_nil, List.all_cons, List.all_nil, lisFz_fz, ltoFz_fz, beq_self_eq_true, jump_true, ifB_true, ifB_false, isF_pv, isPv_pv, toV_pv, isNil_nilp, isNil_pt, isPt_pt, toAg_ag, cell_ag, isAg_ag, fits_ag, Int.toNat_natCast, Bool.not_true, Bool.not_false, fits_int, fits_bool, fits_str, fits_sl, holeP_ok I, ND.enc_fits, Bool.false_eq_true, if_false]
    | true =>
      rw [if_pos rfl]
      have loop : ∀ (j i : Nat), i + j = is.length → L_erase_under_1_0 Rt (is.length + 1) true (j + 1) e u a is.length i x d k c s t (is.map ND.enc) (ks.map .str) 0 0 0 0 0 ⟨#[]⟩ (((is.map (und L a u)).map ND.enc).take i ++ List.replicate (is.length - i) ND.z0.enc) =
          some (.exit 0, X_erase_under_1_0 e u x d k c s t (is.map ND.enc) (ks.map .str) 0 0 0 0 0 ⟨#[]⟩ ((is.map (und L a u)).map ND.enc)) := by
        intro j
        induction j with
        | zero =>
          intro i hij
          rw [L_erase_under_1_0_eq]
          have : ((is.map (und L a u)).map ND.enc).take i ++ List.replicate (is.length - i) ND.z0.enc = (is.map (und L a u)).map ND.enc := by
            rw [show is.length - i = 0 by omega, List.replicate_zero, List.append_nil, List.take_of_length_le (by simp; omega)]
          rw [this, decide_eq_false (show ¬ ((i : Int) < (is.length : Int)) by omega), ifB_false]
        | succ j jh =>
          intro i hij
          have hl : i < is.length := by omega
          have h1 := ih is[i] (List.getElem_mem hl) u
          have h2 := jh (i + 1) (by omega)
          push_cast at h2
          have hw : IntKind.wrap .i64 ((i : Int) + 1) = (i : Int) + 1 := wrap64 (by omega) (by omega)
          have hg : (is.map ND.enc).getD i .nilp = (is[i]).enc := by simp [hl]
          have hlen : (((is.map (und L a u)).map ND.enc).take i ++ List.replicate (is.length - i) ND.z0.enc).length = is.length := by simp; omega
          have hset := set_mix (l := (is.map (und L a u)).map ND.enc) (z := ND.z0.enc) (n := is.length) (i := i) (by simp) hl
          have hget : ((is.map (und L a u)).map ND.enc)[i]'(by simp; omega) = (und L a u is[i]).enc := by simp
          rw [hget] at hset
          have hbl : Nat.blt i is.length = true := by rw [Nat.blt_eq]; omega
          rw [L_erase_under_1_0_eq]
          simp only [List.length_map, hlen, decide_eq_true (show (i : Int) < (is.length : Int) by omega), decide_eq_true (show (0 : Int) ≤ (i : Int) by omega), ifB_true, Bool.and_true, when_true', Int.toNat_natCast, hg, ND.enc_fits, h1, onR_some, List.isEmpty_nil, allF_cons, allF_nil, List.getD_cons_zero, toF_fz, hbl, hset, hw, h2]
      have l0 := loop is.length 0 (by omega)
      rw [List.take_zero, List.nil_append, Nat.sub_zero] at l0
      simp only [Int.natCast_zero] at l0
      have ha := array_ok I u (is.map (und L a u)) (by simpa using hi)
      have roomN' := roomN hi
      simp only [onR_some, onL_some, List.isEmpty_nil, allF_cons, allF_nil, Bool.and_true, Bool.true_and, when_true', List.getD_cons_zero, List.getD_cons_succ, isF_fz, toF_fz, isBool_bool, toBool_bool, isInt_int, toInt_int, isStr_str, toStr_str, isSl_sl, toSl_sl, List.length_cons, List.length_nil, List.all_cons, List.all_nil, lisFz_fz, ltoFz_fz, beq_self_eq_true, jump_true, ifB_true, ifB_false, isF_pv, isPv_pv, toV_pv, isNil_nilp, isNil_pt, isPt_pt, toAg_ag, cell_ag, isAg_ag, fits_ag, Int.toNat_natCast, Bool.not_true, Bool.not_false, fits_int, fits_bool, fits_str, fits_sl, List.length_map, roomN', nz0, l0, X_erase_under_1_0_eq, ha, ND.enc_fits, all_fits_str]
      have hr := roomK ks hk
      rw [List.length_map] at hr
      rw [hr, when_true', ND.enc_mk, ND.enc_mk]
      simp only [onR_some, onL_some, List.isEmpty_nil, allF_cons, allF_nil, Bool.and_true, Bool.true_and, when_true', List.getD_cons_zero, List.getD_cons_succ, isF_fz, toF_fz, isBool_bool, toBool_bool, isInt_int, toInt_int, isStr_str, toStr_str, isSl_sl, toSl_sl, List.length_cons, List.length_nil, List.all_cons, List.all_nil, lisFz_fz, ltoFz_fz, beq_self_eq_true, jump_true, ifB_true, ifB_false, isF_pv, isPv_pv, toV_pv, isNil_nilp, isNil_pt, isPt_pt, toAg_ag, cell_ag, isAg_ag, fits_ag, Int.toNat_natCast, Bool.not_true, Bool.not_false, fits_int, fits_bool, fits_str, fits_sl, List.set_cons_succ, List.set_cons_zero]
theorem at_ok {e : FV} {L : Lt} (I : IsLat e L) (a : Int) {v : ND} (hv : v.Sm) : Rt N_erase_At [.fz (.pt 195 true e 0), .fz v.enc, .fz (.int .i64 a)] = some ([.fz (und L a L.bot v).enc], []) := by
  have h := under_ok I a hv L.bot
  have hf := (und L a L.bot v).enc_fits
  obtain ⟨x, d, k, c, s, t, is, ks⟩ := v
  have hE := E_erase_At Rt 0 true e x d k c s t (is.map ND.enc) (ks.map .str) a
  rw [← ND.enc_mk] at hE
  refine rt_call A_erase_At rfl rfl 0 (hE.trans ?_)
  simp only [lat_Bottom I, onR_some, onL_some, List.isEmpty_nil, allF_cons, allF_nil, Bool.and_true, Bool.true_and, when_true', List.getD_cons_zero, List.getD_cons_succ, isF_fz, toF_fz, isBool_bool, toBool_bool, isInt_int, toInt_int, isStr_str, toStr_str, isSl_sl, toSl_sl, List.length_cons, List.length_nil, List.all_cons, List.all_nil, lisFz_fz, ltoFz_fz, beq_self_eq_true, jump_true, ifB_true, ifB_false, isF_pv, isPv_pv, toV_pv, isNil_nilp, isNil_pt, isPt_pt, toAg_ag, cell_ag, isAg_ag, fits_ag, Int.toNat_natCast, Bool.not_true, Bool.not_false, fits_int, fits_bool, fits_str, fits_sl, h, hf]

/-! How many are seen. -/
mutual
def cou (L : Lt) (a : Int) : Nat → ND → Nat
  | up, .mk x d k c s t is ks => if L.leqI (L.joinI up x) a = true then 1 + cous L a (L.joinI up x) is else 0
def cous (L : Lt) (a : Int) : Nat → List ND → Nat
  | _, [] => 0
  | up, v :: r => cou L a up v + cous L a up r
end
theorem cou_mk (L : Lt) (a : Int) (up : Nat) (x d k c s : Int) (t : ByteArray) (is : List ND) (ks : List ByteArray) : cou L a up (.mk x d k c s t is ks) = if L.leqI (L.joinI up x) a = true then 1 + cous L a (L.joinI up x) is else 0 := by simp [cou]
mutual
theorem cou_le (L : Lt) (a : Int) : ∀ (v : ND) (up : Nat), cou L a up v ≤ v.cnt
  | .mk x d k c s t is ks, up => by
    rw [cou_mk, ND.cnt_mk]
    have := cous_le L a is (L.joinI up x)
    split <;> omega
theorem cous_le (L : Lt) (a : Int) : ∀ (l : List ND) (up : Nat), cous L a up l ≤ ND.cnts l
  | [], up => by simp [cous, ND.cnts]
  | v :: r, up => by
    have h1 := cou_le L a v up
    have h2 := cous_le L a r up
    simp only [cous, ND.cnts]; omega
end
theorem count_ok {e : FV} {L : Lt} (I : IsLat e L) (a : Int) {v : ND} (hv : v.Sm) : ∀ up : Nat, v.cnt ≤ 100000 → Rt N_erase_count [.fz (.pt 195 true e 0), .fz v.enc, .fz (.int .i64 up), .fz (.int .i64 a)] = some ([.fz (.int .i64 (cou L a up v))], []) := by
  induction hv with
  | @mk x d k c s t is ks hi hk ht hs h ih =>
    intro up hcnt
    rw [ND.cnt_mk] at hcnt
    have hj := lat_Join I up x
    have hq := lat_Leq I (L.joinI up x) a
    generalize hu : L.joinI up x = u at hj hq
    refine rt_call A_erase_count rfl rfl (is.length + 1) ?_
    rw [ND.enc_mk, E_erase_count, hj, cou_mk, hu]
    simp only [onR_some, onL_some, List.isEmpty_nil, allF_cons, allF_nil, Bool.and_true, Bool.true_and, when_true', List.getD_cons_zero, List.getD_cons_succ, isF_fz, toF_fz, isBool_bool, toBool_bool, isInt_int, toInt_int, isStr_str, toStr_str, isSl_sl, toSl_sl, List.length_cons, List.length_nil, List.all_cons, List.all_nil, lisFz_fz, ltoFz_fz, beq_self_eq_true, jump_true, ifB_true, ifB_false, isF_pv, isPv_pv, toV_pv, isNil_nilp, isNil_pt, isPt_pt, toAg_ag, cell_ag, isAg_ag, fits_ag, Int.toNat_natCast, Bool.not_true, Bool.not_false, fits_int, fits_bool, fits_str, fits_sl, hq]
    cases hlq : L.leqI u a with
    | false => simp only [onR_some, onL_some, List.isEmpty_nil, allF_cons, allF_nil, Bool.and_true, Bool.true_and, when_true', List.getD_cons_zero, List.getD_cons_succ, isF_fz, toF_fz, isBool_bool, toBool_bool, isInt_int, toInt_int, isStr_str, toStr_str, isSl_sl, toSl_sl, List.length_cons, List.length_nil, List.all_cons, List.all_nil, lisFz_fz, ltoFz_fz, beq_self_eq_true, jump_true, ifB_true, ifB_false, isF_pv, isPv_pv, toV_pv, isNil_nilp, isNil_pt, isPt_pt, toAg_ag, cell_ag, isAg_ag, fits_ag, Int.toNat_natCast, Bool.not_true, Bool.not_false, fits_int, fits_bool, fits_str, fits_sl, Bool.false_eq_true, if_false]; rfl
    | true =>
      rw [if_pos rfl]
      have loop : ∀ (j i acc : Nat), i + j = is.length → acc + ND.cnts (is.drop i) ≤ 100000 → L_erase_count_1_0 Rt (is.length + 1) true (j + 1) e u a acc is.length i x d k c s t (is.map ND.enc) (ks.map .str) =
          some (.exit 0, X_erase_count_1_0 ((acc + cous L a u (is.drop i) : Nat) : Int)) := by
        intro j
        induction j with
        | zero =>
          intro i acc hij hacc
          rw [L_erase_count_1_0_eq, List.drop_eq_nil_of_le (by omega)]
          simp [show ¬ ((i : Int) < (is.length : Int)) by omega, cous]
        | succ j jh =>
          intro i acc hij hacc
          have hl : i < is.length := by omega
          rw [ND.cnts_drop hl] at hacc
          have h1 := ih is[i] (List.getElem_mem hl) u (by omega)
          have hle := cou_le L a is[i] u
          have h2 := jh (i + 1) (acc + cou L a u is[i]) (by omega) (by omega)
          have hw : IntKind.wrap .i64 ((i : Int) + 1) = ((i + 1 : Nat) : Int) := by rw [wrap64 (by omega) (by omega)]; simp
          have hw2 : IntKind.wrap .i64 ((acc : Int) + (cou L a u is[i] : Int)) = ((acc + cou L a u is[i] : Nat) : Int) := by rw [wrap64 (by omega) (by omega)]; simp
          have hg : (is.map ND.enc).getD i .nilp = (is[i]).enc := by simp [hl]
          rw [L_erase_count_1_0_eq, drop_cons hl, cous]
          simp only [List.length_map, decide_eq_true (show (i : Int) < (is.length : Int) by omega), decide_eq_true (show (0 : Int) ≤ (i : Int) by omega), ifB_true, Bool.and_true, when_true', Int.toNat_natCast, hg, ND.enc_fits, h1, onR_some, List.isEmpty_nil, allF_cons, allF_nil, List.getD_cons_zero, toF_fz, isInt_int, toInt_int, hw, hw2, h2, Nat.add_assoc]
      have l0 := loop is.length 0 1 (by omega) (by rw [List.drop_zero]; omega)
      rw [List.drop_zero] at l0
      simp only [Int.natCast_zero, Int.natCast_one] at l0
      simp only [onR_some, onL_some, List.isEmpty_nil, allF_cons, allF_nil, Bool.and_true, Bool.true_and, when_true', List.getD_cons_zero, List.getD_cons_succ, isF_fz, toF_fz, isBool_bool, toBool_bool, isInt_int, toInt_int, isStr_str, toStr_str, isSl_sl, toSl_sl, List.length_cons, List.length_nil, List.all_cons, List.all_nil, lisFz_fz, ltoFz_fz, beq_self_eq_true, jump_true, ifB_true, ifB_false, isF_pv, isPv_pv, toV_pv, isNil_nilp, isNil_pt, isPt_pt, toAg_ag, cell_ag, isAg_ag, fits_ag, Int.toNat_natCast, Bool.not_true, Bool.not_false, fits_int, fits_bool, fits_str, fits_sl, List.length_map, l0, X_erase_count_1_0_eq]
theorem seen_ok {e : FV} {L : Lt} (I : IsLat e L) (a : Int) {v : ND} (hv : v.Sm) (hc : v.cnt ≤ 100000) : Rt N_erase_Seen [.fz (.pt 195 true e 0), .fz v.enc, .fz (.int .i64 a)] = some ([.fz (.int .i64 (cou L a L.bot v))], []) := by
  have h := count_ok I a hv L.bot hc
  obtain ⟨x, d, k, c, s, t, is, ks⟩ := v
  have hE := E_erase_Seen Rt 0 true e x d k c s t (is.map ND.enc) (ks.map .str) a
  rw [← ND.enc_mk] at hE
  refine rt_call A_erase_Seen rfl rfl 0 (hE.trans ?_)
  simp only [lat_Bottom I, onR_some, onL_some, List.isEmpty_nil, allF_cons, allF_nil, Bool.and_true, Bool.true_and, when_true', List.getD_cons_zero, List.getD_cons_succ, isF_fz, toF_fz, isBool_bool, toBool_bool, isInt_int, toInt_int, isStr_str, toStr_str, isSl_sl, toSl_sl, List.length_cons, List.length_nil, List.all_cons, List.all_nil, lisFz_fz, ltoFz_fz, beq_self_eq_true, jump_true, ifB_true, ifB_false, isF_pv, isPv_pv, toV_pv, isNil_nilp, isNil_pt, isPt_pt, toAg_ag, cell_ag, isAg_ag, fits_ag, Int.toNat_natCast, Bool.not_true, Bool.not_false, fits_int, fits_bool, fits_str, fits_sl, h]
end Go.Ab
