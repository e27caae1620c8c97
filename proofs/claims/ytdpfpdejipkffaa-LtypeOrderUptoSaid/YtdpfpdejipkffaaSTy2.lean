/- What a type says of a key; whether a node fits one. -/
import Derived.Test.YtdpfpdejipkffaaSTy1
import Derived.Test.YtdpfpdejipkffaaSBins
import Derived.Test.YtdpfpdejipkffaaSMay
namespace Go.Ab
set_option linter.unusedVariables false
set_option linter.unusedSimpArgs false
set_option linter.unusedSectionVars false

/-- A type that may be, but for how deep it is. -/
inductive MayT (L : Lt) : TY → Prop where
  | mk {a r : Int} {ks : List ByteArray} {us : List TY} (ha : L.is a = true) (hr : L.is r = true) (hl : ks.length = us.length) (hp : ks.Pairwise BLt) (h : ∀ u ∈ us, MayT L u) : MayT L (.mk a ks us r)
theorem isTs_may {L : Lt} : ∀ (us : List TY) (p : Option ByteArray) (ks : List ByteArray) (d : Int), ks.length = us.length → isTs L p ks us d = true → (∀ q, p = some q → ∀ k ∈ ks, BLt q k) ∧ ks.Pairwise BLt ∧ ∀ u ∈ us, isT L u d = true
  | [], p, ks, d, hl, _ => by
    have : ks = [] := List.eq_nil_of_length_eq_zero hl
    subst this
    exact ⟨fun q _ k hk => (by cases hk), List.Pairwise.nil, fun u hu => by cases hu⟩
  | u :: us, p, k :: ks, d, hl, h => by
    rw [isTs_cons, Bool.and_eq_true, Bool.and_eq_true] at h
    obtain ⟨h1, h2, h3⟩ := h
    obtain ⟨q1, q2, q3⟩ := isTs_may us (some k) ks d (by simpa using hl) h3
    have hkk := q1 k rfl
    refine ⟨fun q hq x hx => ?_, List.pairwise_cons.2 ⟨hkk, q2⟩, fun x hx => ?_⟩
    · subst hq
      have hb : BLt q k := leO_false.1 (by simpa [lebB] using h1)
      rcases List.mem_cons.1 hx with rfl | hx
      · exact hb
      · exact hb.trans (hkk x hx)
    · rcases List.mem_cons.1 hx with rfl | hx
      · exact h2
      · exact q3 x hx
  | u :: us, p, [], d, hl, h => by cases hl
mutual
theorem isT_may {L : Lt} : ∀ (v : TY) (d : Int), isT L v d = true → MayT L v
  | .mk a ks us r, d, h => by
    rw [isT, Bool.and_eq_true, Bool.and_eq_true, Bool.and_eq_true, Bool.and_eq_true] at h
    obtain ⟨h1, h2, h3, h4, h5⟩ := h
    have hl : ks.length = us.length := by
      have : (ks.length : Int) = us.length := by simpa using h4
      omega
    obtain ⟨_, q2, q3⟩ := isTs_may us none ks _ hl h5
    exact .mk h2 h3 hl q2 (isT_mays us _ q3)
theorem isT_mays {L : Lt} : ∀ (us : List TY) (d : Int), (∀ u ∈ us, isT L u d = true) → ∀ u ∈ us, MayT L u
  | [], d, _ => fun u hu => by cases hu
  | v :: us, d, h => fun u hu => by
    rcases List.mem_cons.1 hu with hu' | hu'
    · rw [hu']; exact isT_may v d (h v (List.mem_cons_self ..))
    · exact isT_mays us d (fun u hu => h u (List.mem_cons_of_mem _ hu)) u hu'
end
/-- What a type says of a key. -/
def ofL : List ByteArray → List TY → ByteArray → Int → TY
  | k :: ks, u :: us, key, r => if k = key then u else ofL ks us key r
  | _, _, _, r => .mk r [] [] r
def ofT (x : TY) (key : ByteArray) : TY := ofL x.ks x.us key x.r
theorem ofL_cases : ∀ (ks : List ByteArray) (us : List TY) (key : ByteArray) (r : Int), ofL ks us key r ∈ us ∨ ofL ks us key r = .mk r [] [] r
  | [], us, key, r => .inr (by simp [ofL])
  | k :: ks, [], key, r => .inr (by simp [ofL])
  | k :: ks, u :: us, key, r => by
    rw [ofL]
    split
    · exact .inl (List.mem_cons_self ..)
    · rcases ofL_cases ks us key r with h | h
      · exact .inl (List.mem_cons_of_mem _ h)
      · exact .inr h
theorem ofL_no : ∀ (ks : List ByteArray) (us : List TY) (key : ByteArray) (r : Int), key ∉ ks → ofL ks us key r = .mk r [] [] r
  | [], us, key, r, _ => by simp [ofL]
  | k :: ks, [], key, r, _ => by simp [ofL]
  | k :: ks, u :: us, key, r, h => by
    rw [ofL, if_neg (fun e : k = key => h (by rw [e]; exact List.mem_cons_self ..))]
    exact ofL_no ks us key r fun hk => h (List.mem_cons_of_mem _ hk)
theorem ofL_at : ∀ (ks : List ByteArray) (us : List TY) (r : Int) (i : Nat) (h : i < ks.length) (h' : i < us.length), ks.Pairwise BLt → ofL ks us ks[i] r = us[i]
  | k :: ks, u :: us, r, 0, h, h', _ => by simp [ofL]
  | k :: ks, u :: us, r, i + 1, h, h', hp => by
    have hp := List.pairwise_cons.1 hp
    rw [List.getElem_cons_succ, List.getElem_cons_succ, ofL, if_neg (hp.1 _ (List.getElem_mem _)).ne]
    exact ofL_at ks us r i _ _ hp.2
  | [], us, r, i, h, _, _ => by simp at h
  | k :: ks, [], r, i, h, h', _ => by simp at h'
theorem befo_mem {ks : List ByteArray} {key : ByteArray} (hp : ks.Pairwise BLt) (hk : key ∈ ks) : ks[befo ks key]? = some key := by
  obtain ⟨i, hi, rfl⟩ := List.mem_iff_getElem.1 hk
  have h1 := befo_spec (key := ks[i]) hp
  have e : befo ks ks[i] = i := by
    have a1 := h1 i hi
    have : Op.bytesLess (ks[i]).toList (ks[i]).toList = false := bltO_false.2 (BLt.irrefl _)
    rw [this] at a1
    have a2 : ¬ i < befo ks ks[i] := by
      intro hh; rw [decide_eq_true hh] at a1; cases a1
    have a3 : ¬ befo ks ks[i] < i := by
      intro hh
      have b1 := h1 (befo ks ks[i]) (by omega)
      rw [decide_eq_false (by omega)] at b1
      have := bltO_false.1 b1
      exact this (List.pairwise_iff_getElem.1 hp _ _ _ _ hh)
    omega
  rw [e, List.getElem?_eq_getElem hi]
theorem of_plain_may {L : Lt} {r : Int} (hr : L.is r = true) : MayT L (.mk r [] [] r) := .mk hr hr rfl List.Pairwise.nil (fun u hu => by cases hu)
theorem ofT_may {L : Lt} {x : TY} (h : MayT L x) (key : ByteArray) : MayT L (ofT x key) := by
  cases h with
  | @mk a r ks us ha hr hl hp h =>
    show MayT L (ofL ks us key r)
    rcases ofL_cases ks us key r with h1 | h1
    · exact h _ h1
    · rw [h1]; exact of_plain_may hr
theorem sm_plain (r : Int) : (TY.mk r [] [] r).Sm := .mk (by simp) (by simp) (fun v h => by cases h)
theorem ofT_sm {x : TY} (h : x.Sm) (key : ByteArray) : (ofT x key).Sm := by
  cases h with
  | @mk a r ks us hk hu h =>
    rcases ofL_cases ks us key r with h1 | h1
    · exact h _ h1
    · show (ofL ks us key r).Sm
      rw [h1]; exact sm_plain r
theorem of_ok' {L : Lt} {x : TY} (hx : MayT L x) (hs : x.Sm) (key : ByteArray) : Rt N_ltype_Of [.fz x.enc, .fz (.str key)] = some ([.fz (ofT x key).enc], []) := by
  cases hx with
  | @mk a r ks us ha hr hl hp hh =>
    cases hs with
    | mk hk hu _ =>
    have hb := search_ok hk hp key
    refine rt_call A_ltype_Of rfl rfl 0 ?_
    rw [TY.enc_mk, E_ltype_Of, hb]
    have hle := befo_le ks key
    show _ = some ([TV.fz (ofL ks us key r).enc], [])
    by_cases hm : key ∈ ks
    · have hg := befo_mem hp hm
      have hlt : befo ks key < ks.length := by
        rcases Nat.lt_or_ge (befo ks key) ks.length with h | h
        · exact h
        · rw [List.getElem?_eq_none h] at hg; cases hg
      have hkey : ks[befo ks key] = key := by rw [List.getElem?_eq_getElem hlt] at hg; exact Option.some.inj hg
      have hat := ofL_at ks us r (befo ks key) hlt (by omega) hp
      rw [hkey] at hat
      have hgd : (us.map TY.enc).getD (befo ks key) .nilp = (us[befo ks key]'(by omega)).enc := by simp [show befo ks key < us.length by omega]
      rw [hg, hat]
      simp only [onR_some, onL_some, List.isEmpty_nil, allF_cons, allF_nil, Bool.and_true, Bool.true_and, when_true', List.getD_cons_zero, List.getD_cons_succ, isF_fz, toF_fz, isBool_bool, toBool_bool, isInt_int, toInt_int, isStr_str, toStr_str, isSl_sl, toSl_sl, List.length_cons, List.length_nil, List.all_cons, List.all_nil, lisFz_fz, ltoFz_fz, beq_self_eq_true, jump_true, ifB_true, ifB_false, isF_pv, isPv_pv, toV_pv, isNil_nilp, isNil_pt, isPt_pt, toAg_ag, cell_ag, isAg_ag, fits_ag, Int.toNat_natCast, Bool.not_true, Bool.not_false, fits_int, fits_bool, fits_str, fits_sl, List.length_map, decide_eq_false (show ¬ ((befo ks key : Int) ≥ (us.length : Int)) by omega), J_ltype_Of_1_0_eq, J_ltype_Of_2_0_eq, decide_eq_true (show (befo ks key : Int) < (us.length : Int) by omega), decide_eq_true (show (0 : Int) ≤ (befo ks key : Int) by omega), hgd, TY.enc_fits, decide_true]
    · have hg : decide (ks[befo ks key]? = some key) = false := by
        rw [decide_eq_false_iff_not]
        intro e
        exact hm (List.mem_of_getElem? e)
      rw [hg, ofL_no ks us key r hm]
      simp only [onR_some, onL_some, List.isEmpty_nil, allF_cons, allF_nil, Bool.and_true, Bool.true_and, when_true', List.getD_cons_zero, List.getD_cons_succ, isF_fz, toF_fz, isBool_bool, toBool_bool, isInt_int, toInt_int, isStr_str, toStr_str, isSl_sl, toSl_sl, List.length_cons, List.length_nil, List.all_cons, List.all_nil, lisFz_fz, ltoFz_fz, beq_self_eq_true, jump_true, ifB_true, ifB_false, isF_pv, isPv_pv, toV_pv, isNil_nilp, isNil_pt, isPt_pt, toAg_ag, cell_ag, isAg_ag, fits_ag, Int.toNat_natCast, Bool.not_true, Bool.not_false, fits_int, fits_bool, fits_str, fits_sl, J_ltype_Of_1_0_eq, plain_ok, TY.enc_fits]
end Go.Ab
