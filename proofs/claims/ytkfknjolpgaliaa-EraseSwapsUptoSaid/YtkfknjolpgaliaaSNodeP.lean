/- Raised nodes, by the program; a label is below what is deep. -/
import Derived.Test.YtkfknjolpgaliaaSNode2
import Derived.Test.YtkfknjolpgaliaaSLatLaw
namespace Go.Ab
set_option linter.unusedVariables false
set_option linter.unusedSimpArgs false
theorem raise_ok {e : FV} {L : Lt} (I : IsLat e L) (a d k c s : Int) (t : ByteArray) (is : List ND) (ks : List ByteArray) (x : Int) : Rt N_node_Raise [.fz (.pt 195 true e 0), .fz (ND.mk a d k c s t is ks).enc, .fz (.int .i64 x)] = some ([.fz (ND.mk (L.joinI a x) (L.joinI d x) k c s t is ks).enc], []) := by
  have hE := E_node_Raise Rt 0 true e a d k c s t (is.map ND.enc) (ks.map .str) x
  rw [← ND.enc_mk] at hE
  refine rt_call A_node_Raise rfl rfl 0 (hE.trans ?_)
  simp only [lat_Join I, onR_some, onL_some, List.isEmpty_nil, allF_cons, allF_nil, Bool.and_true, Bool.true_and, when_true', List.getD_cons_zero, List.getD_cons_succ, isF_fz, toF_fz, isBool_bool, toBool_bool, isInt_int, toInt_int, isStr_str, toStr_str, isSl_sl, toSl_sl, List.length_cons, List.length_nil, List.all_cons, List.all_nil, lisFz_fz, ltoFz_fz, beq_self_eq_true, jump_true, ifB_true, ifB_false, isF_pv, isPv_pv, toV_pv, isNil_nilp, isNil_pt, isPt_pt, toAg_ag, cell_ag, isAg_ag, fits_ag, Int.toNat_natCast, Bool.not_true, Bool.not_false, fits_int, fits_bool, fits_str, fits_sl, ND.enc_mk]
theorem deepNs_ge {L : Lt} (O : L.Ok) : ∀ (l : List ND) (acc : Nat), acc < L.n → labBs L l = true → L.leq acc (deepNs L acc l) = true
  | [], acc, h, _ => by simpa [deepNs] using O.refl acc h
  | v :: r, acc, h, hl => by
    simp only [labBs, Bool.and_eq_true] at hl
    have hd := deepN_lt O v hl.1
    have hj := O.join _ _ h hd
    rw [deepNs]
    exact O.trans _ _ _ h hj (deepNs_lt O r _ hj hl.2) (O.joinl _ _ h hd) (deepNs_ge O r _ hj hl.2)
/-- A node that may be: its labels are levels. -/
theorem may_labels {L : Lt} (O : L.Ok) {a d k c s : Int} {t : ByteArray} {is : List ND} {ks : List ByteArray} (h1 : labB L (.mk a d k c s t is ks) = true) (h2 : rightB L (.mk a d k c s t is ks) = true) : ∃ x y : Nat, a = x ∧ d = y ∧ x < L.n ∧ y < L.n ∧ L.leq x y = true := by
  rw [labB_mk, Bool.and_eq_true] at h1
  rw [rightB_mk, Bool.and_eq_true, decide_eq_true_eq] at h2
  have ha := Lt.is_iff.1 h1.1
  exact ⟨a.toNat, _, by omega, h2.1, by omega, deepNs_lt O is _ (by omega) h1.2, deepNs_ge O is _ (by omega) h1.2⟩
end Go.Ab
