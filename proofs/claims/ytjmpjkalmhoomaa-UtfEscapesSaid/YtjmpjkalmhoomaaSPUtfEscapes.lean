/- UtfEscapes: the plain law. -/
import Derived.Test.YtjmpjkalmhoomaaSQuoT
import Derived.Test.YtjmpjkalmhoomaaSReadB
import Derived.Test.YtjmpjkalmhoomaaSPUtfReads
import Derived.Test.YtjmpjkalmhoomaaSEscL
namespace Go.Ab
open Go.Proofs
set_option linter.unusedVariables false
set_option linter.unusedSimpArgs false
set_option linter.unusedSectionVars false
theorem qB_app (a b : List UInt8) : qB a ++ qB b = qB (a ++ b) := by
  apply ByteArray.ext
  rw [ByteArray.data_append]
  simp [qB]
theorem bytes_take {l : List Int} {i : Nat} (hi : i < l.length) : bytesOf' (l.take (i + 1)) = bytesOf' (l.take i) ++ toB (putB l[i]) := by
  unfold bytesOf'
  rw [List.take_add_one, List.getElem?_eq_getElem hi, List.flatMap_append]
  simp [toB]
theorem esc_take {l : List Int} {i : Nat} (hi : i < l.length) : (l.take (i + 1)).flatMap escB = (l.take i).flatMap escB ++ escB l[i] := by
  rw [List.take_add_one, List.getElem?_eq_getElem hi, List.flatMap_append]
  simp
theorem bytes_len (m : List Int) : (bytesOf' m).length ≤ 4 * m.length := by
  induction m with
  | nil => simp [bytesOf', toB]
  | cons c m ih => have := (@put_len c).2; rw [bytes_cons, List.length_append, List.length_cons]; omega
def FINE (c : Int) : Prop := 0 ≤ c ∧ c ≤ 1114111 ∧ ¬ (55296 ≤ c ∧ c < 57344)
instance (c : Int) : Decidable (FINE c) := by unfold FINE; infer_instance
section
variable (l : List Int) (hl : l.length ≤ 200) (hlv : Rt N_law03_lives [] = some ([.fz (.bool true)], [])) (K n : Nat)
noncomputable def EL (sh : Bool) (i : Int) (t o : List UInt8) : Option Ans := onL (bif sh then L_law03_UtfEscapes_1_1 Rt K true n (l.map (.int .i64)) (qB t) i (cells o) else L_law03_UtfEscapes_1_0 Rt K true n (l.map (.int .i64)) (qB t) i) (K_law03_UtfEscapes_1 Rt K true)
noncomputable def EJ1 (sh : Bool) (i d : Int) (e : Bool) (t o : List UInt8) : Option Ans := onL (bif sh then J_law03_UtfEscapes_1_1 Rt K true n (l.map (.int .i64)) (qB t) i d e (cells o) else J_law03_UtfEscapes_1_0 Rt K true n (l.map (.int .i64)) (qB t) i d e) (K_law03_UtfEscapes_1 Rt K true)
noncomputable def EJ2 (sh : Bool) (i d : Int) (t o : List UInt8) : Option Ans := onL (bif sh then J_law03_UtfEscapes_2_1 Rt K true n (l.map (.int .i64)) (qB t) i d (cells o) else J_law03_UtfEscapes_2_0 Rt K true n (l.map (.int .i64)) (qB t) i d) (K_law03_UtfEscapes_1 Rt K true)
variable {sh : Bool} {t o : List UInt8} (hsh : sh = false → o = []) (ht : t.length ≤ 100000) (ho : o.length ≤ 100000)
include hsh ho in
theorem ej2 (i : Nat) (hi : i ≤ 200) (d : Int) (hd : FINE d) : EJ2 l K n sh (i : Int) d t o = EL l K n true ((i + 1 : Nat) : Int) t (o ++ toB (putB d)) := by
  obtain ⟨h0, h1, h2⟩ := hd
  have hp := @put_len d
  have hw : IntKind.wrap .i64 ((i : Int) + 1) = ((i + 1 : Nat) : Int) := by rw [wrap64 (by omega) (by omega)]; simp
  unfold EJ2 EL
  cases sh with
  | false =>
    rw [hsh rfl]
    simp only [cond_false, cond_true, List.nil_append]
    rw [J_law03_UtfEscapes_2_0_eq, lift (put3_ok h0 h1), put_cells h0 h1]
    simp only [onR_some, onL_some, List.isEmpty_nil, allF_cons, allF_nil, Bool.and_true, Bool.true_and, when_true', List.getD_cons_zero, List.getD_cons_succ, isF_fz, toF_fz, isBool_bool, toBool_bool, isInt_int, toInt_int, isStr_str, toStr_str, isSl_sl, toSl_sl, List.length_cons, List.length_nil, List.all_cons, List.all_nil, lisFz_fz, ltoFz_fz, beq_self_eq_true, jump_true, ifB_true, ifB_false, isF_pv, isPv_pv, toV_pv, isNil_nilp, isNil_pt, isPt_pt, toAg_ag, cell_ag, isAg_ag, fits_ag, Int.toNat_natCast, Bool.not_true, Bool.not_false, fits_int, fits_bool, fits_str, fits_sl, cells_fits, cells_len]
    rw [room_ok (by omega), when_true', cells_ne hp.1, ifB_false, hw]
  | true =>
    simp only [cond_true]
    rw [J_law03_UtfEscapes_2_1_eq, lift (put3_ok h0 h1), put_cells h0 h1]
    simp only [onR_some, onL_some, List.isEmpty_nil, allF_cons, allF_nil, Bool.and_true, Bool.true_and, when_true', List.getD_cons_zero, List.getD_cons_succ, isF_fz, toF_fz, isBool_bool, toBool_bool, isInt_int, toInt_int, isStr_str, toStr_str, isSl_sl, toSl_sl, List.length_cons, List.length_nil, List.all_cons, List.all_nil, lisFz_fz, ltoFz_fz, beq_self_eq_true, jump_true, ifB_true, ifB_false, isF_pv, isPv_pv, toV_pv, isNil_nilp, isNil_pt, isPt_pt, toAg_ag, cell_ag, isAg_ag, fits_ag, Int.toNat_natCast, Bool.not_true, Bool.not_false, fits_int, fits_bool, fits_str, fits_sl, cells_fits, cells_len]
    rw [room_ok (by omega), when_true', hw, cells_app]
include hlv in
theorem ej1_bad (i d : Int) : EJ1 l K n sh i d true t o = some ([.fz (.bool true)], []) := by
  unfold EJ1
  cases sh with
  | false => simp only [cond_false]; rw [J_law03_UtfEscapes_1_0_eq, ifB_true, hlv]; simp only [onR_some, onL_some, List.isEmpty_nil, allF_cons, allF_nil, Bool.and_true, Bool.true_and, when_true', List.getD_cons_zero, List.getD_cons_succ, isF_fz, toF_fz, isBool_bool, toBool_bool, isInt_int, toInt_int, isStr_str, toStr_str, isSl_sl, toSl_sl, List.length_cons, List.length_nil, List.all_cons, List.all_nil, lisFz_fz, ltoFz_fz, beq_self_eq_true, jump_true, ifB_true, ifB_false, isF_pv, isPv_pv, toV_pv, isNil_nilp, isNil_pt, isPt_pt, toAg_ag, cell_ag, isAg_ag, fits_ag, Int.toNat_natCast, Bool.not_true, Bool.not_false, fits_int, fits_bool, fits_str, fits_sl, X_law03_UtfEscapes_1_1_eq]
  | true => simp only [cond_true]; rw [J_law03_UtfEscapes_1_1_eq, ifB_true, hlv]; simp only [onR_some, onL_some, List.isEmpty_nil, allF_cons, allF_nil, Bool.and_true, Bool.true_and, when_true', List.getD_cons_zero, List.getD_cons_succ, isF_fz, toF_fz, isBool_bool, toBool_bool, isInt_int, toInt_int, isStr_str, toStr_str, isSl_sl, toSl_sl, List.length_cons, List.length_nil, List.all_cons, List.all_nil, lisFz_fz, ltoFz_fz, beq_self_eq_true, jump_true, ifB_true, ifB_false, isF_pv, isPv_pv, toV_pv, isNil_nilp, isNil_pt, isPt_pt, toAg_ag, cell_ag, isAg_ag, fits_ag, Int.toNat_natCast, Bool.not_true, Bool.not_false, fits_int, fits_bool, fits_str, fits_sl, X_law03_UtfEscapes_1_3_eq]
include ht in
theorem ej1_ok (i d : Int) (hd : FINE d) : EJ1 l K n sh i d false t o = EJ2 l K n sh i d (t ++ escB d) o := by
  obtain ⟨h0, h1, h2⟩ := hd
  have e0 : (⟨#[92, 117]⟩ : ByteArray) = qB [92, 117] := rfl
  have hr : ∀ x y : List UInt8, x.length + y.length ≤ 1000000 → decide ((qB x).size + (qB y).size ≤ 2 ^ 62) = true := fun x y h => decide_eq_true (by rw [qB_size, qB_size]; omega)
  by_cases g : d < 65536
  · have eb : escB d = [92, 117] ++ hex4 d := by unfold escB; rw [if_pos g]; rfl
    have hh := lift (hex_ok h0 g)
    unfold EJ1 EJ2
    rw [eb, ← List.append_assoc]
    cases sh with
    | false => simp only [cond_false]; rw [J_law03_UtfEscapes_1_0_eq, ifB_false, decide_eq_true g, ifB_true, e0, hr _ _ (by simp; omega), when_true', hh, qB_app]; simp only [onR_some, onL_some, List.isEmpty_nil, allF_cons, allF_nil, Bool.and_true, Bool.true_and, when_true', List.getD_cons_zero, List.getD_cons_succ, isF_fz, toF_fz, isBool_bool, toBool_bool, isInt_int, toInt_int, isStr_str, toStr_str, isSl_sl, toSl_sl, List.length_cons, List.length_nil, List.all_cons, List.all_nil, lisFz_fz, ltoFz_fz, beq_self_eq_true, jump_true, ifB_true, ifB_false, isF_pv, isPv_pv, toV_pv, isNil_nilp, isNil_pt, isPt_pt, toAg_ag, cell_ag, isAg_ag, fits_ag, Int.toNat_natCast, Bool.not_true, Bool.not_false, fits_int, fits_bool, fits_str, fits_sl]; rw [hr _ _ (by simp [hex4_len]; omega), when_true', qB_app]
    | true => simp only [cond_true]; rw [J_law03_UtfEscapes_1_1_eq, ifB_false, decide_eq_true g, ifB_true, e0, hr _ _ (by simp; omega), when_true', hh, qB_app]; simp only [onR_some, onL_some, List.isEmpty_nil, allF_cons, allF_nil, Bool.and_true, Bool.true_and, when_true', List.getD_cons_zero, List.getD_cons_succ, isF_fz, toF_fz, isBool_bool, toBool_bool, isInt_int, toInt_int, isStr_str, toStr_str, isSl_sl, toSl_sl, List.length_cons, List.length_nil, List.all_cons, List.all_nil, lisFz_fz, ltoFz_fz, beq_self_eq_true, jump_true, ifB_true, ifB_false, isF_pv, isPv_pv, toV_pv, isNil_nilp, isNil_pt, isPt_pt, toAg_ag, cell_ag, isAg_ag, fits_ag, Int.toNat_natCast, Bool.not_true, Bool.not_false, fits_int, fits_bool, fits_str, fits_sl]; rw [hr _ _ (by simp [hex4_len]; omega), when_true', qB_app]
  · have eb : escB d = [92, 117] ++ (hex4 (55296 + (d - 65536) / 1024) ++ ([92, 117] ++ hex4 (56320 + (d - 65536) % 1024))) := by unfold escB; rw [if_neg g]; rfl
    have t1 : Int.tdiv (d - 65536) 1024 = (d - 65536) / 1024 := Int.tdiv_eq_ediv_of_nonneg (by omega)
    have t2 : Int.tmod (d - 65536) 1024 = (d - 65536) % 1024 := Int.tmod_eq_emod_of_nonneg (by omega)
    have w1 : IntKind.wrap .i64 (d - 65536) = d - 65536 := by rw [wrap64 (by omega) (by omega)]
    have w2 : IntKind.wrap .i64 ((d - 65536) / 1024) = (d - 65536) / 1024 := by rw [wrap64 (by omega) (by omega)]
    have w3 : IntKind.wrap .i64 (55296 + (d - 65536) / 1024) = 55296 + (d - 65536) / 1024 := by rw [wrap64 (by omega) (by omega)]
    have w4 : IntKind.wrap .i64 (56320 + (d - 65536) % 1024) = 56320 + (d - 65536) % 1024 := by rw [wrap64 (by omega) (by omega)]
    have hh := lift (hex_ok (a := 55296 + (d - 65536) / 1024) (by omega) (by omega))
    have hh2 := lift (hex_ok (a := 56320 + (d - 65536) % 1024) (by omega) (by omega))
    unfold EJ1 EJ2
    rw [eb, ← List.append_assoc, ← List.append_assoc, ← List.append_assoc]
    cases sh with
    | false => simp only [cond_false]; rw [J_law03_UtfEscapes_1_0_eq, ifB_false, decide_eq_false g, ifB_false, e0, hr _ _ (by simp; omega), when_true', w1, t1, w2, w3, hh, qB_app]; simp only [onR_some, onL_some, List.isEmpty_nil, allF_cons, allF_nil, Bool.and_true, Bool.true_and, when_true', List.getD_cons_zero, List.getD_cons_succ, isF_fz, toF_fz, isBool_bool, toBool_bool, isInt_int, toInt_int, isStr_str, toStr_str, isSl_sl, toSl_sl, List.length_cons, List.length_nil, List.all_cons, List.all_nil, lisFz_fz, ltoFz_fz, beq_self_eq_true, jump_true, ifB_true, ifB_false, isF_pv, isPv_pv, toV_pv, isNil_nilp, isNil_pt, isPt_pt, toAg_ag, cell_ag, isAg_ag, fits_ag, Int.toNat_natCast, Bool.not_true, Bool.not_false, fits_int, fits_bool, fits_str, fits_sl]; rw [hr _ _ (by simp [hex4_len]; omega), when_true', qB_app, hr _ _ (by simp [hex4_len]; omega), when_true', t2, w4, hh2, qB_app]; simp only [onR_some, onL_some, List.isEmpty_nil, allF_cons, allF_nil, Bool.and_true, Bool.true_and, when_true', List.getD_cons_zero, List.getD_cons_succ, isF_fz, toF_fz, isBool_bool, toBool_bool, isInt_int, toInt_int, isStr_str, toStr_str, isSl_sl, toSl_sl, List.length_cons, List.length_nil, List.all_cons, List.all_nil, lisFz_fz, ltoFz_fz, beq_self_eq_true, jump_true, ifB_true, ifB_false, isF_pv, isPv_pv, toV_pv, isNil_nilp, isNil_pt, isPt_pt, toAg_ag, cell_ag, isAg_ag, fits_ag, Int.toNat_natCast, Bool.not_true, Bool.not_false, fits_int, fits_bool, fits_str, fits_sl]; rw [hr _ _ (by simp [hex4_len]; omega), when_true', qB_app]
    | true => simp only [cond_true]; rw [J_law03_UtfEscapes_1_1_eq, ifB_false, decide_eq_false g, ifB_false, e0, hr _ _ (by simp; omega), when_true', w1, t1, w2, w3, hh, qB_app]; simp only [onR_some, onL_some, List.isEmpty_nil, allF_cons, allF_nil, Bool.and_true, Bool.true_and, when_true', List.getD_cons_zero, List.getD_cons_succ, isF_fz, toF_fz, isBool_bool, toBool_bool, isInt_int, toInt_int, isStr_str, toStr_str, isSl_sl, toSl_sl, List.length_cons, List.length_nil, List.all_cons, List.all_nil, lisFz_fz, ltoFz_fz, beq_self_eq_true, jump_true, ifB_true, ifB_false, isF_pv, isPv_pv, toV_pv, isNil_nilp, isNil_pt, isPt_pt, toAg_ag, cell_ag, isAg_ag, fits_ag, Int.toNat_natCast, Bool.not_true, Bool.not_false, fits_int, fits_bool, fits_str, fits_sl]; rw [hr _ _ (by simp [hex4_len]; omega), when_true', qB_app, hr _ _ (by simp [hex4_len]; omega), when_true', t2, w4, hh2, qB_app]; simp only [onR_some, onL_some, List.isEmpty_nil, allF_cons, allF_nil, Bool.and_true, Bool.true_and, when_true', List.getD_cons_zero, List.getD_cons_succ, isF_fz, toF_fz, isBool_bool, toBool_bool, isInt_int, toInt_int, isStr_str, toStr_str, isSl_sl, toSl_sl, List.length_cons, List.length_nil, List.all_cons, List.all_nil, lisFz_fz, ltoFz_fz, beq_self_eq_true, jump_true, ifB_true, ifB_false, isF_pv, isPv_pv, toV_pv, isNil_nilp, isNil_pt, isPt_pt, toAg_ag, cell_ag, isAg_ag, fits_ag, Int.toNat_natCast, Bool.not_true, Bool.not_false, fits_int, fits_bool, fits_str, fits_sl]; rw [hr _ _ (by simp [hex4_len]; omega), when_true', qB_app]
theorem el_step (i : Nat) (hi : i < l.length) : EL l K (n + 1) sh (i : Int) t o = EJ1 l K n sh (i : Int) l[i] (decide (¬ FINE l[i])) t o := by
  have B3 : decide ((i : Int) < (l.length : Int)) = true := decide_eq_true (by omega)
  have B4 : (decide ((0 : Int) ≤ (i : Int)) && true) = true := by rw [Bool.and_true]; exact decide_eq_true (by omega)
  unfold EL EJ1
  have gd := getD_intQ l hi
  generalize hc : l[i] = c at gd ⊢
  have fin : ∀ e : Bool, (e = true ↔ ¬ FINE c) → e = decide (¬ FINE c) := fun e h => by rw [Bool.eq_iff_iff, decide_eq_true_iff]; exact h
  by_cases g1 : c < 0
  · rw [← fin true (by simp [FINE]; omega)]
    cases sh with
    | false => simp only [cond_false]; rw [L_law03_UtfEscapes_1_0_eq]; simp only [List.length_map, B3, ifB_true, B4, when_true', Int.toNat_natCast, gd, fits_int, isInt_int, toInt_int, beq_self_eq_true, decide_eq_true g1, jump_true]
    | true => simp only [cond_true]; rw [L_law03_UtfEscapes_1_1_eq]; simp only [List.length_map, B3, ifB_true, B4, when_true', Int.toNat_natCast, gd, fits_int, isInt_int, toInt_int, beq_self_eq_true, decide_eq_true g1, jump_true]
  · by_cases g2 : c > 1114111
    · rw [← fin true (by simp [FINE]; omega)]
      cases sh with
      | false => simp only [cond_false]; rw [L_law03_UtfEscapes_1_0_eq]; simp only [List.length_map, B3, ifB_true, B4, when_true', Int.toNat_natCast, gd, fits_int, isInt_int, toInt_int, beq_self_eq_true, decide_eq_false g1, ifB_false, decide_eq_true g2, jump_true]
      | true => simp only [cond_true]; rw [L_law03_UtfEscapes_1_1_eq]; simp only [List.length_map, B3, ifB_true, B4, when_true', Int.toNat_natCast, gd, fits_int, isInt_int, toInt_int, beq_self_eq_true, decide_eq_false g1, ifB_false, decide_eq_true g2, jump_true]
    · by_cases g3 : c ≥ 55296
      · rw [← fin (decide (c < 57344)) (by simp [FINE]; omega)]
        cases sh with
        | false => simp only [cond_false]; rw [L_law03_UtfEscapes_1_0_eq]; simp only [List.length_map, B3, ifB_true, B4, when_true', Int.toNat_natCast, gd, fits_int, isInt_int, toInt_int, beq_self_eq_true, decide_eq_false g1, ifB_false, decide_eq_false g2, decide_eq_true g3, jump_true]
        | true => simp only [cond_true]; rw [L_law03_UtfEscapes_1_1_eq]; simp only [List.length_map, B3, ifB_true, B4, when_true', Int.toNat_natCast, gd, fits_int, isInt_int, toInt_int, beq_self_eq_true, decide_eq_false g1, ifB_false, decide_eq_false g2, decide_eq_true g3, jump_true]
      · rw [← fin false (by simp [FINE]; omega)]
        cases sh with
        | false => simp only [cond_false]; rw [L_law03_UtfEscapes_1_0_eq]; simp only [List.length_map, B3, ifB_true, B4, when_true', Int.toNat_natCast, gd, fits_int, isInt_int, toInt_int, beq_self_eq_true, decide_eq_false g1, ifB_false, decide_eq_false g2, decide_eq_false g3, jump_true]
        | true => simp only [cond_true]; rw [L_law03_UtfEscapes_1_1_eq]; simp only [List.length_map, B3, ifB_true, B4, when_true', Int.toNat_natCast, gd, fits_int, isInt_int, toInt_int, beq_self_eq_true, decide_eq_false g1, ifB_false, decide_eq_false g2, decide_eq_false g3, jump_true]
include hl hlv in
theorem el_end (hf : ∀ c ∈ l, FINE c) (hsh : sh = false → bytesOf' l = []) : EL l K (n + 1) sh (l.length : Int) (34 :: l.flatMap escB) (bytesOf' l) = some ([.fz (.bool true)], []) := by
  have B3 : decide ((l.length : Int) < (l.length : Int)) = false := decide_eq_false (by omega)
  have e34 : (⟨#[34]⟩ : ByteArray) = qB [34] := rfl
  have hle := (esc_len l).2
  have hbl := bytes_len l
  have hr : ∀ x y : List UInt8, x.length + y.length ≤ 1000000 → decide ((qB x).size + (qB y).size ≤ 2 ^ 62) = true := fun x y h => decide_eq_true (by rw [qB_size, qB_size]; omega)
  have hu := unq_ok (qB (34 :: (l.flatMap escB ++ [34]))) (by rw [qB_size]; simp only [List.length_cons, List.length_append, List.length_nil]; omega)
  have hd : ∀ x : List UInt8, (qB x).data.toList = x := fun _ => rfl
  rw [hd, unq_esc hf] at hu
  have hn := lift (nsigns_ok (s := qB (bytesOf' l)) (by rw [qB_size]; omega))
  rw [hd, signs_put hf] at hn
  have nil8 : (⟨(List.map (fun e => UInt8.ofNat (FV.toInt e).toNat) []).toArray⟩ : ByteArray) = qB [] := rfl
  unfold EL
  cases sh with
  | false =>
    have hb := hsh rfl
    rw [hb] at hu hn
    simp only [cond_false]
    rw [L_law03_UtfEscapes_1_0_eq, List.length_map, B3, ifB_false, onL_some, X_law03_UtfEscapes_1_0_eq, e34, hr _ _ (by simp only [List.length_cons, List.length_append, List.length_nil]; omega), when_true', qB_app, List.cons_append, hu, nil8]
    simp only [onR_some, onL_some, List.isEmpty_nil, allF_cons, allF_nil, Bool.and_true, Bool.true_and, when_true', List.getD_cons_zero, List.getD_cons_succ, isF_fz, toF_fz, isBool_bool, toBool_bool, isInt_int, toInt_int, isStr_str, toStr_str, isSl_sl, toSl_sl, List.length_cons, List.length_nil, List.all_cons, List.all_nil, lisFz_fz, ltoFz_fz, beq_self_eq_true, jump_true, ifB_true, ifB_false, isF_pv, isPv_pv, toV_pv, isNil_nilp, isNil_pt, isPt_pt, toAg_ag, cell_ag, isAg_ag, fits_ag, Int.toNat_natCast, Bool.not_true, Bool.not_false, fits_int, fits_bool, fits_str, fits_sl, bytes_beq, decide_true, hn, hlv, List.length_map]
  | true =>
    simp only [cond_true]
    rw [L_law03_UtfEscapes_1_1_eq, List.length_map, B3, ifB_false, onL_some, X_law03_UtfEscapes_1_2_eq, e34, hr _ _ (by simp only [List.length_cons, List.length_append, List.length_nil]; omega), when_true', qB_app, List.cons_append, hu, cells_back, cells_all]
    simp only [onR_some, onL_some, List.isEmpty_nil, allF_cons, allF_nil, Bool.and_true, Bool.true_and, when_true', List.getD_cons_zero, List.getD_cons_succ, isF_fz, toF_fz, isBool_bool, toBool_bool, isInt_int, toInt_int, isStr_str, toStr_str, isSl_sl, toSl_sl, List.length_cons, List.length_nil, List.all_cons, List.all_nil, lisFz_fz, ltoFz_fz, beq_self_eq_true, jump_true, ifB_true, ifB_false, isF_pv, isPv_pv, toV_pv, isNil_nilp, isNil_pt, isPt_pt, toAg_ag, cell_ag, isAg_ag, fits_ag, Int.toNat_natCast, Bool.not_true, Bool.not_false, fits_int, fits_bool, fits_str, fits_sl, bytes_beq, decide_true, hn, hlv, List.length_map]
include hl hlv in
theorem el_loop : ∀ (d i n : Nat) (sh : Bool), i + d = l.length → d < n → (sh = false → bytesOf' (l.take i) = []) → (∀ c ∈ l.take i, FINE c) →
    EL l K n sh (i : Int) (34 :: (l.take i).flatMap escB) (bytesOf' (l.take i)) = some ([.fz (.bool true)], []) := by
  intro d
  induction d with
  | zero =>
    intro i n sh h1 h2 h3 h4
    obtain ⟨n, rfl⟩ : ∃ q, n = q + 1 := ⟨n - 1, by omega⟩
    have : i = l.length := by omega
    subst this
    rw [List.take_length] at h3 h4 ⊢
    exact el_end l hl hlv K n h4 h3
  | succ d ih =>
    intro i n sh h1 h2 h3 h4
    obtain ⟨n, rfl⟩ : ∃ q, n = q + 1 := ⟨n - 1, by omega⟩
    have hi : i < l.length := by omega
    have hle := (esc_len (l.take i)).2
    have hbl := bytes_len (l.take i)
    rw [List.length_take] at hle hbl
    rw [el_step l K n i hi]
    by_cases g : FINE l[i]
    · rw [decide_eq_false (fun h => h g), ej1_ok l K n (by simp only [List.length_cons]; omega) _ _ g, ej2 l K n h3 (by omega) i (by omega) _ g, List.cons_append, ← esc_take hi, ← bytes_take hi]
      refine ih (i + 1) n true (by omega) (by omega) (by simp) ?_
      intro c hc
      rw [List.take_add_one, List.getElem?_eq_getElem hi] at hc
      rcases List.mem_append.1 hc with hc | hc
      · exact h4 c hc
      · simp at hc; subst hc; exact g
    · rw [decide_eq_true g]
      exact ej1_bad l hlv K n _ _
end
theorem pure_UtfEscapes (f0 : FV) (h0 : WV Try.prog 40 reachBytes 26 f0) : Rt N_law03_UtfEscapes [.fz f0] = some ([.fz (.bool true)], []) := by
  obtain ⟨l, rfl, _, _⟩ := wc_ints (k := .i64) (by kernel_rfl) (by kernel_rfl) (slA_of (e := 3) (by kernel_rfl) (by kernel_rfl) h0)
  have hlv := lives3_ok
  refine rt_call A_law03_UtfEscapes rfl rfl 3000 ?_
  rw [E_law03_UtfEscapes, List.length_map]
  by_cases g : l.length ≤ 200
  · rw [decide_eq_false (by omega), ifB_false]
    have h := el_loop l g hlv 3000 l.length 0 3000 false (by omega) (by omega) (fun _ => rfl) (by simp)
    exact h
  · rw [decide_eq_true (by omega), ifB_true, hlv]
    rfl
end Go.Ab
