/- What keyholeref03.Unquote answers. -/
import Derived.Test.YtjmpjkalmhoomaaSUnq2
import Derived.Test.YtjmpjkalmhoomaaRd5
namespace Go.Ab
set_option linter.unusedVariables false
set_option linter.unusedSimpArgs false
set_option linter.unusedSectionVars false
section
variable (s : ByteArray) (hs : s.size ≤ 1099511627776) (K n : Nat)
variable {sh : Bool} {out : List UInt8} (hsh : sh = false → out = []) (hol : out.length ≤ 1099511627776) (b : Bool)
include hsh hol hs
theorem ul_end (i : Nat) (hd : s.data.toList.drop i = []) : UL s K (n + 1) sh b (i : Int) out = some (unqFin (some (out, b))) := by
  have h0 := drop_end hd
  have hsg := signs_ok (qB out) (by show out.length ≤ _; omega)
  have hq : (qB out).data.toList = out := rfl
  rw [hq] at hsg
  have B3 : decide ((i : Int) < (s.size : Int)) = false := decide_eq_false (by omega)
  unfold UL
  cases sh with
  | false =>
    rw [hsh rfl] at hsg ⊢
    simp only [cond_false]
    rw [L_ref03_Unquote_1_0_eq, B3, ifB_false, onL_some, X_ref03_Unquote_1_1_eq]
    have e0 : (⟨(List.map (fun e => UInt8.ofNat (FV.toInt e).toNat) []).toArray⟩ : ByteArray) = qB [] := rfl
    have e1 : signsL [] = some [] := rfl
    rw [e1] at hsg
    rw [e0, hsg]
    simp only [onR_some, onL_some, List.isEmpty_nil, allF_cons, allF_nil, Bool.and_true, Bool.true_and, when_true', List.getD_cons_zero, List.getD_cons_succ, isF_fz, toF_fz, isBool_bool, toBool_bool, isInt_int, toInt_int, isStr_str, toStr_str, isSl_sl, toSl_sl, List.length_cons, List.length_nil, List.all_cons, List.all_nil, lisFz_fz, ltoFz_fz, beq_self_eq_true, jump_true, ifB_true, ifB_false, isF_pv, isPv_pv, toV_pv, isNil_nilp, isNil_pt, isPt_pt, toAg_ag, cell_ag, isAg_ag, fits_ag, Int.toNat_natCast, Bool.not_true, Bool.not_false, fits_int, fits_bool, fits_str, fits_sl]
    cases b with
    | true => rfl
    | false => rw [ifB_false, J_ref03_Unquote_7_0_eq]; rfl
  | true =>
    simp only [cond_true]
    rw [L_ref03_Unquote_1_1_eq, B3, ifB_false, onL_some, X_ref03_Unquote_1_3_eq, cells_back, cells_all, when_true', hsg]
    unfold unqFin
    cases hv : signsL out with
    | none =>
      simp only [onR_some, onL_some, List.isEmpty_nil, allF_cons, allF_nil, Bool.and_true, Bool.true_and, when_true', List.getD_cons_zero, List.getD_cons_succ, isF_fz, toF_fz, isBool_bool, toBool_bool, isInt_int, toInt_int, isStr_str, toStr_str, isSl_sl, toSl_sl, List.length_cons, List.length_nil, List.all_cons, List.all_nil, lisFz_fz, ltoFz_fz, beq_self_eq_true, jump_true, ifB_true, ifB_false, isF_pv, isPv_pv, toV_pv, isNil_nilp, isNil_pt, isPt_pt, toAg_ag, cell_ag, isAg_ag, fits_ag, Int.toNat_natCast, Bool.not_true, Bool.not_false, fits_int, fits_bool, fits_str, fits_sl]
      rw [if_pos (.inr (by rw [hv]; rfl))]
      cases b <;> rfl
    | some cs =>
      simp only [onR_some, onL_some, List.isEmpty_nil, allF_cons, allF_nil, Bool.and_true, Bool.true_and, when_true', List.getD_cons_zero, List.getD_cons_succ, isF_fz, toF_fz, isBool_bool, toBool_bool, isInt_int, toInt_int, isStr_str, toStr_str, isSl_sl, toSl_sl, List.length_cons, List.length_nil, List.all_cons, List.all_nil, lisFz_fz, ltoFz_fz, beq_self_eq_true, jump_true, ifB_true, ifB_false, isF_pv, isPv_pv, toV_pv, isNil_nilp, isNil_pt, isPt_pt, toAg_ag, cell_ag, isAg_ag, fits_ag, Int.toNat_natCast, Bool.not_true, Bool.not_false, fits_int, fits_bool, fits_str, fits_sl]
      cases b with
      | true => rw [if_pos (.inl rfl)]; rfl
      | false =>
        rw [if_neg (by rw [hv]; simp), ifB_false, J_ref03_Unquote_7_1_eq, cells_back, cells_all, when_true']
theorem ul_step (i : Nat) (c : UInt8) (r : List UInt8) (hd : s.data.toList.drop i = c :: r) : UL s K (n + 1) sh b (i : Int) out = if c = 34 ∨ c.toNat < 32 then some failA else UJ6 s K n sh b (i : Int) ((c.toNat : Nat) : Int) out := by
  obtain ⟨g1, g2, g3⟩ := at_drop hd
  have B3 : decide ((i : Int) < (s.size : Int)) = true := decide_eq_true (by omega)
  have B4 : (decide ((0 : Int) ≤ (i : Int)) && true) = true := by rw [Bool.and_true]; exact decide_eq_true (by omega)
  have hc : (c = 34) ↔ (((c.toNat : Nat) : Int) = 34) := by
    constructor
    · rintro rfl; rfl
    · intro h; exact UInt8.toNat_inj.1 (by show c.toNat = 34; omega)
  have eqd : ∀ v u : Int, (v == u) = decide (v = u) := fun v u => rfl
  unfold UL UJ6
  by_cases h1 : ((c.toNat : Nat) : Int) = 34
  · rw [if_pos (.inl (hc.2 h1))]
    cases sh with
    | false => simp only [cond_false]; rw [L_ref03_Unquote_1_0_eq, B3, ifB_true, B4, when_true', Int.toNat_natCast, g1, eqd, decide_eq_true h1, ifB_true, onL_some, X_ref03_Unquote_1_0_eq]; rfl
    | true => simp only [cond_true]; rw [L_ref03_Unquote_1_1_eq, B3, ifB_true, B4, when_true', Int.toNat_natCast, g1, eqd, decide_eq_true h1, ifB_true, onL_some, X_ref03_Unquote_1_2_eq]; rfl
  · by_cases h2 : c.toNat < 32
    · rw [if_pos (.inr h2)]
      cases sh with
      | false => simp only [cond_false]; rw [L_ref03_Unquote_1_0_eq, B3, ifB_true, B4, when_true', Int.toNat_natCast, g1, eqd, decide_eq_false h1, ifB_false, decide_eq_true (by omega), ifB_true, onL_some, X_ref03_Unquote_1_0_eq]; rfl
      | true => simp only [cond_true]; rw [L_ref03_Unquote_1_1_eq, B3, ifB_true, B4, when_true', Int.toNat_natCast, g1, eqd, decide_eq_false h1, ifB_false, decide_eq_true (by omega), ifB_true, onL_some, X_ref03_Unquote_1_2_eq]; rfl
    · rw [if_neg (by rw [hc]; rintro (h | h); exact h1 h; exact h2 h)]
      cases sh with
      | false => simp only [cond_false]; rw [L_ref03_Unquote_1_0_eq, B3, ifB_true, B4, when_true', Int.toNat_natCast, g1, eqd, decide_eq_false h1, ifB_false, decide_eq_false (by omega), ifB_false, jump_true]
      | true => simp only [cond_true]; rw [L_ref03_Unquote_1_1_eq, B3, ifB_true, B4, when_true', Int.toNat_natCast, g1, eqd, decide_eq_false h1, ifB_false, decide_eq_false (by omega), ifB_false, jump_true]
theorem uj6_esc (i : Nat) (r : List UInt8) (hd : s.data.toList.drop i = 92 :: r) (F : Option (List UInt8 × List UInt8 × Bool) → Option Ans) (hF0 : F none = some failA)
    (hF : ∀ (sh' : Bool) (j : Nat) (r' o' : List UInt8) (l' : Bool), s.data.toList.drop j = r' → (sh' = false → o' = []) → escL r out b = some (r', o', l') → UL s K n sh' l' (j : Int) o' = F (some (r', o', l'))) :
    UJ6 s K n sh b (i : Int) 92 out = F (escL r out b) := by
  match r, hd, hF with
  | [], hd, hF => rw [uj6_end s hs K n hsh hol b i hd]; exact hF0.symm
  | y :: r, hd, hF =>
    obtain ⟨g1, g2, g3⟩ := at_drop hd
    obtain ⟨g4, g5, g6⟩ := at_drop g3
    by_cases hy : y = 117
    · subst hy
      rw [uj6_u s hs K n hsh hol b i r hd]
      have e0 : escL (117 :: r) out b = pairL r out b := by unfold escL; simp only [if_true]
      rw [e0] at hF ⊢
      cases h4 : fourL r with
      | none =>
        have e1 : pairL r out b = none := by unfold pairL; rw [h4]
        rw [e1]; exact hF0.symm
      | some m =>
        obtain ⟨m0, m1, m4⟩ := fourL_range h4
        have hr2 : s.data.toList.drop (i + 2) = r := g6
        have hlen : i + 6 ≤ s.size := by
          have := congrArg List.length hr2
          rw [List.length_drop, Array.length_toList] at this
          have e2 : s.data.size = s.size := rfl
          omega
        have hr4 : s.data.toList.drop (i + 6) = r.drop 4 := by rw [← hr2, List.drop_drop]
        have hr6 : s.data.toList.drop (i + 8) = r.drop 6 := by rw [← hr2, List.drop_drop]
        have hr10 : s.data.toList.drop (i + 12) = r.drop 10 := by rw [← hr2, List.drop_drop]
        simp only
        rw [uj2 s hs K n hsh hol b (i + 6) hlen m _ m0 (by omega) (fun h => by rw [Bool.and_eq_true, decide_eq_true_eq] at h; exact h.1)]
        have e8 : i + 6 + 2 = i + 8 := rfl
        rw [e8, hr6]
        by_cases c1 : m < 55296 ∨ 57343 < m
        · have e1 : pairL r out b = some (r.drop 4, out ++ encL m, b) := by unfold pairL; rw [h4]; simp only []; rw [if_pos c1]
          rw [e1] at hF ⊢
          rw [decide_eq_false (show ¬ (55296 ≤ m ∧ m < 56320) by omega), Bool.false_and, if_neg (by simp), if_neg (show ¬ (55296 ≤ m ∧ m < 57344) by omega)]
          exact hF true (i + 6) _ _ _ hr4 (by simp) rfl
        · by_cases c2 : 56319 < m ∨ Lib.hasPrefix (r.drop 4) [92, 117] = false
          · have e1 : pairL r out b = some (r.drop 4, out, true) := by unfold pairL; rw [h4]; simp only []; rw [if_neg c1, if_pos c2]
            rw [e1] at hF ⊢
            have e3 : (decide (55296 ≤ m ∧ m < 56320) && Lib.hasPrefix (r.drop 4) [92, 117]) = false := by
              rcases c2 with c2 | c2
              · rw [decide_eq_false (show ¬ (55296 ≤ m ∧ m < 56320) by omega), Bool.false_and]
              · rw [c2, Bool.and_false]
            rw [e3, if_neg (by simp), if_pos (show (55296 ≤ m ∧ m < 57344) by omega)]
            exact hF sh (i + 6) _ _ _ hr4 hsh rfl
          · have c3 : ¬ 56319 < m ∧ ¬ Lib.hasPrefix (r.drop 4) [92, 117] = false := ⟨fun h => c2 (.inl h), fun h => c2 (.inr h)⟩
            have e3 : (decide (55296 ≤ m ∧ m < 56320) && Lib.hasPrefix (r.drop 4) [92, 117]) = true := by
              rw [decide_eq_true (show (55296 ≤ m ∧ m < 56320) by omega), Bool.true_and]; exact Bool.not_eq_false _ ▸ c3.2
            rw [e3, if_pos rfl]
            cases h6 : fourL (r.drop 6) with
            | none =>
              have e1 : pairL r out b = none := by unfold pairL; rw [h4]; simp only []; rw [if_neg c1, if_neg c2, h6]
              rw [e1]; exact hF0.symm
            | some q =>
              simp only
              by_cases c4 : q < 56320 ∨ 57343 < q
              · have e1 : pairL r out b = some (r.drop 4, out, true) := by unfold pairL; rw [h4]; simp only []; rw [if_neg c1, if_neg c2, h6]; simp only []; rw [if_pos c4]
                rw [e1] at hF ⊢
                rw [if_neg (show ¬ (56320 ≤ q ∧ q < 57344) by omega)]
                exact hF sh (i + 6) _ _ _ hr4 hsh rfl
              · have e1 : pairL r out b = some (r.drop 10, out ++ encL (65536 + (m - 55296) * 1024 + (q - 56320)), b) := by unfold pairL; rw [h4]; simp only []; rw [if_neg c1, if_neg c2, h6]; simp only []; rw [if_neg c4]
                rw [e1] at hF ⊢
                rw [if_pos (show (56320 ≤ q ∧ q < 57344) by omega)]
                exact hF true (i + 12) _ _ _ hr10 (by simp) rfl
    · rw [uj6_simple s hs K n hsh hol b i y r hd hy]
      by_cases g : Lib.indexByte escI y < 0
      · have e1 : escL (y :: r) out b = none := by unfold escL; simp only []; rw [if_neg hy, if_pos g]
        rw [if_pos g, e1]; exact hF0.symm
      · have e1 : escL (y :: r) out b = some (r, out ++ [escO.getD (Lib.indexByte escI y).toNat 0], b) := by unfold escL; simp only []; rw [if_neg hy, if_neg g]
        rw [e1] at hF ⊢
        rw [if_neg g]
        exact hF true (i + 2) _ _ _ g6 (by simp) rfl
end
theorem ul_loop (s : ByteArray) (hs : s.size ≤ 1099511627776) (K : Nat) : ∀ (m n i : Nat) (sh : Bool) (out rest : List UInt8) (b : Bool), s.data.toList.drop i = rest → rest.length ≤ m → m < n → out.length + rest.length ≤ 1099511627776 → (sh = false → out = []) →
    UL s K n sh b (i : Int) out = some (unqFin (allN m rest out b)) := by
  intro m
  induction m with
  | zero =>
    intro n i sh out rest b hd hm hn hol hsh
    obtain ⟨n, rfl⟩ : ∃ q, n = q + 1 := ⟨n - 1, by omega⟩
    have : rest = [] := List.eq_nil_of_length_eq_zero (by omega)
    subst this
    rw [ul_end s hs K n hsh (by omega) b i hd]
    rfl
  | succ m ih =>
    intro n i sh out rest b hd hm hn hol hsh
    obtain ⟨n, rfl⟩ : ∃ q, n = q + 1 := ⟨n - 1, by omega⟩
    cases rest with
    | nil => rw [ul_end s hs K n hsh (by omega) b i hd]; rfl
    | cons c r =>
      simp only [List.length_cons] at hm hol
      rw [ul_step s hs K n hsh (by omega) b i c r hd]
      simp only [allN]
      by_cases h1 : c = 34 ∨ c.toNat < 32
      · rw [if_pos h1, if_pos h1]; rfl
      · rw [if_neg h1, if_neg h1]
        by_cases h2 : c = 92
        · subst h2
          rw [if_pos rfl]
          have := uj6_esc s hs K n hsh (by omega) b i r hd (fun x => some (unqFin (match x with | none => none | some p => allN m p.1 p.2.1 p.2.2))) rfl (by
            intro sh' j r' o' l' hd' hsh' he
            obtain ⟨l1, l2⟩ := escL_len he
            exact ih n j sh' o' r' l' hd' (by omega) (by omega) (by omega) hsh')
          exact this
        · rw [if_neg h2, uj6_plain s hs K n hsh (by omega) b i c r hd h2]
          obtain ⟨_, _, g3⟩ := at_drop hd
          exact ih n (i + 1) true _ r b g3 (by omega) (by omega) (by simp; omega) (by simp)
theorem rUnq_ok (s : ByteArray) (hs : s.size ≤ 1099511627776) : Rt0 N_ref03_Unquote [.fz (.str s)] = some ([.fz (.str (qB (unqL s.data.toList).1)), .fz (.int .i64 (unqL s.data.toList).2)], []) := by
  refine rt_call0 A_ref03_Unquote rfl rfl (s.size + 1) ?_
  rw [E_ref03_Unquote]
  have hsz : s.data.toList.length = s.size := Array.length_toList
  by_cases g0 : s.size < 2
  · rw [decide_eq_true (by omega), ifB_true, unqL_short (by rw [hsz]; exact g0)]
    rfl
  · obtain ⟨a, m, z, hl⟩ := ends_of s.data.toList (by rw [hsz]; exact g0)
    have hsm : s.size = m.length + 2 := by rw [← hsz, hl]; simp
    have w1 : IntKind.wrap .i64 ((s.size : Int) - 1) = ((m.length + 1 : Nat) : Int) := by rw [wrap64 (by omega) (by omega)]; omega
    have ga : Array.getD s.data 0 0 = a := (at_drop (s := s) (j := 0) (by rw [List.drop_zero]; exact hl)).1
    have hz : s.data.toList.drop (m.length + 1) = [z] := by rw [hl]; simp
    have gz : Array.getD s.data (m.length + 1) 0 = z := (at_drop hz).1
    have B1 : decide ((0 : Int) < (s.size : Int)) = true := decide_eq_true (by omega)
    have B2 : (decide ((0 : Int) ≤ ((m.length + 1 : Nat) : Int)) && decide (((m.length + 1 : Nat) : Int) < (s.size : Int))) = true := by rw [Bool.and_eq_true, decide_eq_true_eq, decide_eq_true_eq]; omega
    have hbne : ∀ c : UInt8, ((((c.toNat : Nat) : Int)) != 34) = decide (c ≠ 34) := by
      intro c
      rw [Bool.eq_iff_iff, bne_iff_ne, decide_eq_true_iff]
      constructor
      · rintro h rfl; exact h rfl
      · intro h h2; exact h (UInt8.toNat_inj.1 (by show c.toNat = 34; omega))
    rw [hl, unqL_eq, decide_eq_false (by omega), ifB_false, B1, when_true', ga, w1, B2, when_true', Int.toNat_natCast, gz, hbne, hbne, jump_true]
    by_cases g1 : a ≠ 34
    · rw [decide_eq_true g1, ifB_true, if_pos (.inl g1)]; rfl
    · rw [decide_eq_false g1, ifB_false]
      by_cases g2 : z ≠ 34
      · rw [decide_eq_true g2, ifB_true, if_pos (.inr g2)]; rfl
      · rw [decide_eq_false g2, ifB_false, if_neg (by rintro (h | h); exact g1 h; exact g2 h), J_ref03_Unquote_9_0_eq, w1]
        have B3 : (decide ((0 : Int) ≤ ((m.length + 1 : Nat) : Int)) && decide (((m.length + 1 : Nat) : Int) ≤ (s.size : Int))) = true := by rw [Bool.and_eq_true, decide_eq_true_eq, decide_eq_true_eq]; omega
        have B4 : (decide ((0 : Nat) ≤ 1) && decide ((1 : Int) ≤ ((m.length + 1 : Nat) : Int))) = true := by rw [Bool.and_eq_true, decide_eq_true_eq, decide_eq_true_eq]; omega
        have hex : s.extract 1 (m.length + 1) = qB m := by
          have : s = ⟨(a :: (m ++ [z])).toArray⟩ := by rw [← hl]
          rw [this]
          apply ByteArray.ext
          rw [ByteArray.data_extract]
          apply Array.toList_inj.1
          simp [qB]
        rw [B3, when_true', B4, when_true', Int.toNat_natCast, hex]
        have key := ul_loop (qB m) (by show m.length ≤ _; omega) (s.size + 1) m.length (s.size + 1) 0 false [] m false rfl (Nat.le_refl _) (by omega) (by simp; omega) (fun _ => rfl)
        refine Eq.trans key ?_
        cases allN m.length m [] false with
        | none => rfl
        | some p =>
          simp only [unqFin]
          by_cases g3 : p.2 = true ∨ (signsL p.1).isSome = false
          · rw [if_pos g3, if_pos g3]; rfl
          · rw [if_neg g3, if_neg g3]
end Go.Ab
