/- LevelLaws: the plain law. -/
import Derived.Test.YtpgngeagdphhfaaSLev01
import Derived.Test.YtpgngeagdphhfaaSLev4B
namespace Go.Ab
open Go.Proofs
set_option linter.unusedVariables false
set_option linter.unusedSimpArgs false

theorem laws1 {e : FV} {L : Lt} (I : IsLat e L) (a b : Nat) (ha : a < L.n) (hb : b < L.n) : J_law01_LevelLaws_1_0 Rt 0 true (.pt 195 true e 0) a b = some ([.fz (.bool true)], []) := by
  have O := I.ok
  have hl := lives01_ok
  have l1 := lat_Leq I a b
  have j1 := lat_Join I a b
  have m1 := lat_Meet I a b
  rw [Lt.leqI_nat ha hb] at l1
  rw [Lt.joinI_nat ha hb] at j1
  rw [Lt.meetI_nat ha hb] at m1
  have l2 := lat_Leq I a (L.join a b)
  have l3 := lat_Leq I (L.meet a b) b
  rw [Lt.leqI_nat ha (O.join a b ha hb), O.joinl a b ha hb] at l2
  rw [Lt.leqI_nat (O.meet a b ha hb) hb, O.meetr a b ha hb] at l3
  have e1 : (L.leq a b == (((L.join a b : Nat) : Int) == (b : Int))) = true := by
    rw [O.leq_join ha hb, beq_iff_eq, Bool.eq_iff_iff]; simp; omega
  have e2 : (L.leq a b == (((L.meet a b : Nat) : Int) == (a : Int))) = true := by
    rw [O.leq_meet ha hb, beq_iff_eq, Bool.eq_iff_iff]; simp; omega
  rw [J_law01_LevelLaws_1_0_eq]
  simp only [l1, j1, m1, l2, l3, hl, onR_some, onL_some, List.isEmpty_nil, allF_cons, allF_nil, Bool.and_true, Bool.true_and, when_true', List.getD_cons_zero, List.getD_cons_succ, isF_fz, toF_fz, isBool_bool, toBool_bool, isInt_int, toInt_int, isStr_str, toStr_str, isSl_sl, toSl_sl, List.length_cons, List.length_nil, List.all_cons, List.all_nil, lisFz_fz, ltoFz_fz, beq_self_eq_true, jump_true, ifB_true, ifB_false, isF_pv, isPv_pv, toV_pv, isNil_nilp, isNil_pt, isPt_pt, toAg_ag, cell_ag, isAg_ag, fits_ag, Int.toNat_natCast, Bool.not_true, Bool.not_false, fits_int, fits_bool, fits_str, fits_sl, e1, e2]
theorem laws2 {e : FV} {L : Lt} (I : IsLat e L) (a b : Nat) (ha : a < L.n) (hb : b < L.n) : J_law01_LevelLaws_2_0 Rt 0 true (.pt 195 true e 0) a b = some ([.fz (.bool true)], []) := by
  have O := I.ok
  have j1 := lat_Join I a b
  have m1 := lat_Meet I a b
  have j2 := lat_Join I a (L.meet a b)
  have m2 := lat_Meet I a (L.join a b)
  have j3 := lat_Join I a a
  have m3 := lat_Meet I a a
  rw [Lt.joinI_nat ha hb] at j1
  rw [Lt.meetI_nat ha hb] at m1
  rw [Lt.joinI_nat ha (O.meet a b ha hb), O.abs1 ha hb] at j2
  rw [Lt.meetI_nat ha (O.join a b ha hb), O.abs2 ha hb] at m2
  have s1 : L.join a a = a := O.join_eq ha ha ha (O.refl a ha) (O.refl a ha) fun d hd x _ => x
  have s2 : L.meet a a = a := O.meet_eq ha ha ha (O.refl a ha) (O.refl a ha) fun d hd x _ => x
  rw [Lt.joinI_nat ha ha, s1] at j3
  rw [Lt.meetI_nat ha ha, s2] at m3
  rw [J_law01_LevelLaws_2_0_eq]
  simp only [j1, m1, j2, m2, j3, m3, onR_some, onL_some, List.isEmpty_nil, allF_cons, allF_nil, Bool.and_true, Bool.true_and, when_true', List.getD_cons_zero, List.getD_cons_succ, isF_fz, toF_fz, isBool_bool, toBool_bool, isInt_int, toInt_int, isStr_str, toStr_str, isSl_sl, toSl_sl, List.length_cons, List.length_nil, List.all_cons, List.all_nil, lisFz_fz, ltoFz_fz, beq_self_eq_true, jump_true, ifB_true, ifB_false, isF_pv, isPv_pv, toV_pv, isNil_nilp, isNil_pt, isPt_pt, toAg_ag, cell_ag, isAg_ag, fits_ag, Int.toNat_natCast, Bool.not_true, Bool.not_false, fits_int, fits_bool, fits_str, fits_sl, bne_self_eq_false, laws1 I a b ha hb]
theorem laws3 {e : FV} {L : Lt} (I : IsLat e L) (x y z : Int) : J_law01_LevelLaws_3_0 Rt 0 true (.pt 195 true e 0) x y z = some ([.fz (.bool true)], []) := by
  have O := I.ok
  obtain ⟨a, ha, ea⟩ := lev_of x O.n1 O.n8
  obtain ⟨b, hb, eb⟩ := lev_of y O.n1 O.n8
  obtain ⟨c, hc, ec⟩ := lev_of z O.n1 O.n8
  have hs := lat_Size I
  have hz : (!decide ((L.n : Int) = 0)) = true := by have := O.n1; simp; omega
  have j := fun (a b : Nat) (ha : a < L.n) (hb : b < L.n) => (by have := lat_Join I a b; rwa [Lt.joinI_nat ha hb] at this : Rt N_level_Lattice_Join [.fz (.pt 195 true e 0), .fz (.int .i64 a), .fz (.int .i64 b)] = some ([.fz (.int .i64 (L.join a b))], []))
  have m := fun (a b : Nat) (ha : a < L.n) (hb : b < L.n) => (by have := lat_Meet I a b; rwa [Lt.meetI_nat ha hb] at this : Rt N_level_Lattice_Meet [.fz (.pt 195 true e 0), .fz (.int .i64 a), .fz (.int .i64 b)] = some ([.fz (.int .i64 (L.meet a b))], []))
  have e1 : (((L.join a b : Nat) : Int) != ((L.join b a : Nat) : Int)) = false := by rw [O.join_comm ha hb]; simp
  have e2 : (((L.join a (L.join b c) : Nat) : Int) != ((L.join (L.join a b) c : Nat) : Int)) = false := by rw [O.join_assoc ha hb hc]; simp
  have e3 : (((L.meet a (L.meet b c) : Nat) : Int) != ((L.meet (L.meet a b) c : Nat) : Int)) = false := by rw [O.meet_assoc ha hb hc]; simp
  rw [J_law01_LevelLaws_3_0_eq]
  simp only [hs, onR_some, onL_some, List.isEmpty_nil, allF_cons, allF_nil, Bool.and_true, Bool.true_and, when_true', List.getD_cons_zero, List.getD_cons_succ, isF_fz, toF_fz, isBool_bool, toBool_bool, isInt_int, toInt_int, isStr_str, toStr_str, isSl_sl, toSl_sl, List.length_cons, List.length_nil, List.all_cons, List.all_nil, lisFz_fz, ltoFz_fz, beq_self_eq_true, jump_true, ifB_true, ifB_false, isF_pv, isPv_pv, toV_pv, isNil_nilp, isNil_pt, isPt_pt, toAg_ag, cell_ag, isAg_ag, fits_ag, Int.toNat_natCast, Bool.not_true, Bool.not_false, fits_int, fits_bool, fits_str, fits_sl, hz, ea, eb, ec, j a b ha hb, j b a hb ha, j b c hb hc, j a (L.join b c) ha (O.join b c hb hc), j (L.join a b) c (O.join a b ha hb) hc, e1, e2, m b c hb hc, m a b ha hb, m a (L.meet b c) ha (O.meet b c hb hc), m (L.meet a b) c (O.meet a b ha hb) hc, e3, laws2 I a b ha hb]

theorem pure_LevelLaws (f0 f1 : FV) (h0 : WV Try.prog 40 140737488351232 26 f0) (h1 : WV Try.prog 40 140737488351232 44 f1) : Rt N_law01_LevelLaws [.fz f0, .fz f1] = some ([.fz (.bool true)], []) := by
  obtain ⟨names, pairs, pp, rfl, _⟩ := pol_of (tn := 9) (tp := 46) (tpp := 84) (by kernel_rfl) (by kernel_rfl) (by kernel_rfl) (by kernel_rfl) (by kernel_rfl) (by kernel_rfl) h0
  obtain ⟨x, y, z, rfl, _⟩ := int3_of (by kernel_rfl) (by kernel_rfl) h1
  obtain ⟨g, hg, hn⟩ := New_two names pairs pp
  refine rt_call A_law01_LevelLaws rfl rfl 0 ((E_law01_LevelLaws Rt 0 true _ _ _ _ _ _).trans ?_)
  have hl := lives01_ok
  unfold polE at hn
  rcases hn with ⟨hc, N, hn⟩ | ⟨hc, hn⟩
  · have I := latR_is N
    have hs := lat_Size I
    have h1 := N.n1
    have hne : (((ltR names.length g).n : Int) == 0) = false := by
      show ((names.length : Int) == 0) = false
      simp; intro h; rw [h] at h1; simp at h1
    simp only [hn, onR_some, onL_some, List.isEmpty_nil, allF_cons, allF_nil, Bool.and_true, Bool.true_and, when_true', List.getD_cons_zero, List.getD_cons_succ, isF_fz, toF_fz, isBool_bool, toBool_bool, isInt_int, toInt_int, isStr_str, toStr_str, isSl_sl, toSl_sl, List.length_cons, List.length_nil, List.all_cons, List.all_nil, lisFz_fz, ltoFz_fz, beq_self_eq_true, jump_true, ifB_true, ifB_false, isF_pv, isPv_pv, toV_pv, isNil_nilp, isNil_pt, isPt_pt, toAg_ag, cell_ag, isAg_ag, fits_ag, Int.toNat_natCast, Bool.not_true, Bool.not_false, fits_int, fits_bool, fits_str, fits_sl, bne_self_eq_false, hs, hne, laws3 I x y z]
  · have hb : (newC names pairs g != 0) = true := by simpa using hc
    simp only [hn, onR_some, onL_some, List.isEmpty_nil, allF_cons, allF_nil, Bool.and_true, Bool.true_and, when_true', List.getD_cons_zero, List.getD_cons_succ, isF_fz, toF_fz, isBool_bool, toBool_bool, isInt_int, toInt_int, isStr_str, toStr_str, isSl_sl, toSl_sl, List.length_cons, List.length_nil, List.all_cons, List.all_nil, lisFz_fz, ltoFz_fz, beq_self_eq_true, jump_true, ifB_true, ifB_false, isF_pv, isPv_pv, toV_pv, isNil_nilp, isNil_pt, isPt_pt, toAg_ag, cell_ag, isAg_ag, fits_ag, Int.toNat_natCast, Bool.not_true, Bool.not_false, fits_int, fits_bool, fits_str, fits_sl, hb, hl]
end Go.Ab
