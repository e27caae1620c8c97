/- Texts turned byte by byte; without blanks at their ends; beginnings, ends, what stands in them. -/
import Derived.Test.YtgljpoefbphhdaaDoorSSigns8
namespace Go.Ab
set_option linter.unusedVariables false
set_option linter.unusedSimpArgs false
set_option linter.unusedSectionVars false
open Go.Lib (index occAt)
theorem isFn_fn (f : Nat) (cs : List FV) : FV.isFn (.fn f cs) = true := rfl
theorem fnN_fn (f : Nat) (cs : List FV) : FV.fnN (.fn f cs) = f := rfl
theorem fnC_fn (f : Nat) (cs : List FV) : FV.fnC (.fn f cs) = cs := rfl
theorem app1 (x : FV) (cs : List FV) : List.map TV.fz ([x] ++ cs) = .fz x :: cs.map .fz := rfl
theorem wrapu8 {n : Int} (h1 : 0 ≤ n) (h2 : n ≤ 255) : IntKind.wrap .u8 n = n := by
  unfold IntKind.wrap
  simp [IntKind.bits, IntKind.signed]
  omega
theorem u8_lt (c : UInt8) : c.toNat ≤ 255 := by have := c.toNat_lt; omega
theorem turned_ok {l : List UInt8} (hs : l.length ≤ 1099511627776) (g : Nat) (caps : List FV) (p : UInt8 → UInt8) (hp : ∀ b : UInt8, Rt g (.fz (.int .u8 ((b.toNat : Nat) : Int)) :: caps.map .fz) = some ([.fz (.int .u8 (((p b).toNat : Nat) : Int))], [])) :
    Rt N_words_turned [.fz (.str (BB l)), .fz (.fn g caps)] = some ([.fz (.str (BB (l.map p)))], []) := by
  have loop : ∀ (j i N : Nat) (m : List UInt8), i + j = l.length → j < N → m.length = l.length → (∀ (k : Nat) (h : k < l.length), m[k]? = some (if k < i then p l[k] else l[k])) →
      L_words_turned_1_0 Rt (l.length + 1) true N (.fn g caps) l.length i (cells m) = some (.exit 0, X_words_turned_1_0 (cells (l.map p))) := by
    intro j
    induction j with
    | zero =>
      intro i N m hij hN hm hk
      obtain ⟨N, rfl⟩ : ∃ M, N = M + 1 := ⟨N - 1, by omega⟩
      have : m = l.map p := by
        apply List.ext_getElem
        · simp [hm]
        · intro k h1 h2
          have h := hk k (by omega)
          rw [List.getElem?_eq_getElem h1, if_pos (by omega)] at h
          rw [List.getElem_map]; exact Option.some.inj h
      rw [L_words_turned_1_0_eq, decide_eq_false (show ¬ ((i : Int) < (l.length : Int)) by omega), ifB_false, this]
    | succ j jh =>
      intro i N m hij hN hm hk
      obtain ⟨N, rfl⟩ : ∃ M, N = M + 1 := ⟨N - 1, by omega⟩
      have hl : i < l.length := by omega
      have him : i < m.length := by omega
      have hw : IntKind.wrap .i64 ((i : Int) + 1) = ((i + 1 : Nat) : Int) := by rw [wrap64 (by omega) (by omega)]; simp
      have hmi : m[i] = l[i] := by
        have h := hk i hl
        rw [List.getElem?_eq_getElem him, if_neg (by omega)] at h
        exact Option.some.inj h
      have hg : (cells m).getD i .nilp = .int .u8 ((l[i].toNat : Nat) : Int) := by
        simp [cells, List.getD, List.getElem?_eq_getElem him, hmi]
      have hset : (cells m).set i (.int .u8 (((p l[i]).toNat : Nat) : Int)) = cells (m.set i (p l[i])) := by
        unfold cells; rw [List.map_set]
      have nb : Nat.blt i m.length = true := Nat.ble_eq_true_of_le him
      have h2 := jh (i + 1) N (m.set i (p l[i])) (by omega) (by omega) (by simp [hm]) (fun k h => by
        rw [List.getElem?_set]
        by_cases e : i = k
        · subst e; rw [if_pos rfl, if_pos him, if_pos (by omega)]
        · rw [if_neg e, hk k h]
          by_cases e2 : k < i
          · rw [if_pos e2, if_pos (by omega)]
          · rw [if_neg e2, if_neg (by omega)])
      rw [L_words_turned_1_0_eq]
      simp only [cells_len, hm, decide_eq_true (show (i : Int) < (l.length : Int) by omega), decide_eq_true (show (0 : Int) ≤ (i : Int) by omega), ifB_true, Bool.and_true, when_true', Int.toNat_natCast, hm ▸ nb, hg, isInt_int, toInt_int, isFn_fn, fnN_fn, fnC_fn, app1, hp, onR_some, List.isEmpty_nil, allF_cons, allF_nil, List.getD_cons_zero, toF_fz, hset, hw]
      exact h2
  have l0 := loop l.length 0 (l.length + 1) l (by omega) (by omega) rfl (fun k h => by rw [List.getElem?_eq_getElem h, if_neg (by omega)])
  simp only [Int.natCast_zero] at l0
  refine rt_call A_words_turned rfl rfl (l.length + 1) ?_
  have e1 : List.map (fun b => FV.int .u8 ((b.toNat : Nat) : Int)) (BB l).data.toList = cells l := rfl
  rw [E_words_turned, e1, cells_len, l0, onL_some, X_words_turned_1_0_eq, cells_all, when_true', cells_back]
  rfl
theorem between_ok (a b c : Int) : Rt N_words_between [.fz (.int .u8 a), .fz (.int .u8 b), .fz (.int .u8 c)] = some ([.fz (.bool (decide (b ≤ a) && decide (a ≤ c)))], []) := by
  refine rt_call A_words_between rfl rfl 0 ?_
  rw [E_words_between]
  by_cases h : b ≤ a
  · rw [decide_eq_true (show a ≥ b from h), ifB_true, Bool.true_and]
  · rw [decide_eq_false (show ¬ a ≥ b from h), ifB_false, Bool.false_and]
def upB (c : UInt8) : UInt8 := if 97 ≤ c.toNat ∧ c.toNat ≤ 122 then UInt8.ofNat (c.toNat - 32) else c
def lowB (c : UInt8) : UInt8 := if 65 ≤ c.toNat ∧ c.toNat ≤ 90 then UInt8.ofNat (c.toNat + 32) else c
theorem upB_nat (c : UInt8) : (upB c).toNat = if 97 ≤ c.toNat ∧ c.toNat ≤ 122 then c.toNat - 32 else c.toNat := by
  unfold upB; split
  · have := u8_lt c; simp; omega
  · rfl
theorem lowB_nat (c : UInt8) : (lowB c).toNat = if 65 ≤ c.toNat ∧ c.toNat ≤ 90 then c.toNat + 32 else c.toNat := by
  unfold lowB; split
  · have := u8_lt c; simp; omega
  · rfl
theorem up1_ok (b : UInt8) : Rt N_words_Upper_1 (.fz (.int .u8 ((b.toNat : Nat) : Int)) :: ([] : List FV).map .fz) = some ([.fz (.int .u8 (((upB b).toNat : Nat) : Int))], []) := by
  have hb := u8_lt b
  refine rt_call A_words_Upper_1 rfl rfl 0 ?_
  rw [List.map_nil, E_words_Upper_1, between_ok, upB_nat]
  by_cases h : 97 ≤ b.toNat ∧ b.toNat ≤ 122
  · have hw : IntKind.wrap .u8 (IntKind.wrap .u8 ((b.toNat : Int) - 97) + 65) = ((b.toNat - 32 : Nat) : Int) := by
      rw [wrapu8 (n := (b.toNat : Int) - 97) (by omega) (by omega), wrapu8 (by omega) (by omega)]; omega
    rw [if_pos h, decide_eq_true (show (97 : Int) ≤ b.toNat by omega), decide_eq_true (show (b.toNat : Int) ≤ 122 by omega)]
    simp only [onR_some, onL_some, List.isEmpty_nil, allF_cons, allF_nil, Bool.and_true, Bool.true_and, when_true', List.getD_cons_zero, List.getD_cons_succ, isF_fz, toF_fz, isBool_bool, toBool_bool, isInt_int, toInt_int, isStr_str, toStr_str, isSl_sl, toSl_sl, List.length_cons, List.length_nil, List.all_cons, List.all_nil, lisFz_fz, ltoFz_fz, beq_self_eq_true, jump_true, ifB_true, ifB_false, isF_pv, isPv_pv, toV_pv, isNil_nilp, isNil_pt, isPt_pt, toAg_ag, cell_ag, isAg_ag, fits_ag, Int.toNat_natCast, Bool.not_true, Bool.not_false, fits_int, fits_bool, fits_str, fits_sl, hw]
  · rw [if_neg h]
    have : (decide ((97 : Int) ≤ b.toNat) && decide ((b.toNat : Int) ≤ 122)) = false := by
      rw [Bool.and_eq_false_iff, decide_eq_false_iff_not, decide_eq_false_iff_not]; omega
    rw [this]; simp only [onR_some, onL_some, List.isEmpty_nil, allF_cons, allF_nil, Bool.and_true, Bool.true_and, when_true', List.getD_cons_zero, List.getD_cons_succ, isF_fz, toF_fz, isBool_bool, toBool_bool, isInt_int, toInt_int, isStr_str, toStr_str, isSl_sl, toSl_sl, List.length_cons, List.length_nil, List.all_cons, List.all_nil, lisFz_fz, ltoFz_fz, beq_self_eq_true, jump_true, ifB_true, ifB_false, isF_pv, isPv_pv, toV_pv, isNil_nilp, isNil_pt, isPt_pt, toAg_ag, cell_ag, isAg_ag, fits_ag, Int.toNat_natCast, Bool.not_true, Bool.not_false, fits_int, fits_bool, fits_str, fits_sl]
theorem low1_ok (b : UInt8) : Rt N_words_Lower_1 (.fz (.int .u8 ((b.toNat : Nat) : Int)) :: ([] : List FV).map .fz) = some ([.fz (.int .u8 (((lowB b).toNat : Nat) : Int))], []) := by
  have hb := u8_lt b
  refine rt_call A_words_Lower_1 rfl rfl 0 ?_
  rw [List.map_nil, E_words_Lower_1, between_ok, lowB_nat]
  by_cases h : 65 ≤ b.toNat ∧ b.toNat ≤ 90
  · have hw : IntKind.wrap .u8 (IntKind.wrap .u8 ((b.toNat : Int) - 65) + 97) = ((b.toNat + 32 : Nat) : Int) := by
      rw [wrapu8 (n := (b.toNat : Int) - 65) (by omega) (by omega), wrapu8 (by omega) (by omega)]; omega
    rw [if_pos h, decide_eq_true (show (65 : Int) ≤ b.toNat by omega), decide_eq_true (show (b.toNat : Int) ≤ 90 by omega)]
    simp only [onR_some, onL_some, List.isEmpty_nil, allF_cons, allF_nil, Bool.and_true, Bool.true_and, when_true', List.getD_cons_zero, List.getD_cons_succ, isF_fz, toF_fz, isBool_bool, toBool_bool, isInt_int, toInt_int, isStr_str, toStr_str, isSl_sl, toSl_sl, List.length_cons, List.length_nil, List.all_cons, List.all_nil, lisFz_fz, ltoFz_fz, beq_self_eq_true, jump_true, ifB_true, ifB_false, isF_pv, isPv_pv, toV_pv, isNil_nilp, isNil_pt, isPt_pt, toAg_ag, cell_ag, isAg_ag, fits_ag, Int.toNat_natCast, Bool.not_true, Bool.not_false, fits_int, fits_bool, fits_str, fits_sl, hw]
  · rw [if_neg h]
    have : (decide ((65 : Int) ≤ b.toNat) && decide ((b.toNat : Int) ≤ 90)) = false := by
      rw [Bool.and_eq_false_iff, decide_eq_false_iff_not, decide_eq_false_iff_not]; omega
    rw [this]; simp only [onR_some, onL_some, List.isEmpty_nil, allF_cons, allF_nil, Bool.and_true, Bool.true_and, when_true', List.getD_cons_zero, List.getD_cons_succ, isF_fz, toF_fz, isBool_bool, toBool_bool, isInt_int, toInt_int, isStr_str, toStr_str, isSl_sl, toSl_sl, List.length_cons, List.length_nil, List.all_cons, List.all_nil, lisFz_fz, ltoFz_fz, beq_self_eq_true, jump_true, ifB_true, ifB_false, isF_pv, isPv_pv, toV_pv, isNil_nilp, isNil_pt, isPt_pt, toAg_ag, cell_ag, isAg_ag, fits_ag, Int.toNat_natCast, Bool.not_true, Bool.not_false, fits_int, fits_bool, fits_str, fits_sl]
theorem upper_ok {l : List UInt8} (hs : l.length ≤ 1099511627776) : Rt N_words_Upper [.fz (.str (BB l))] = some ([.fz (.str (BB (l.map upB)))], []) := by
  refine rt_call A_words_Upper rfl rfl 0 ?_
  rw [E_words_Upper, turned_ok hs _ [] upB up1_ok]
  simp only [onR_some, onL_some, List.isEmpty_nil, allF_cons, allF_nil, Bool.and_true, Bool.true_and, when_true', List.getD_cons_zero, List.getD_cons_succ, isF_fz, toF_fz, isBool_bool, toBool_bool, isInt_int, toInt_int, isStr_str, toStr_str, isSl_sl, toSl_sl, List.length_cons, List.length_nil, List.all_cons, List.all_nil, lisFz_fz, ltoFz_fz, beq_self_eq_true, jump_true, ifB_true, ifB_false, isF_pv, isPv_pv, toV_pv, isNil_nilp, isNil_pt, isPt_pt, toAg_ag, cell_ag, isAg_ag, fits_ag, Int.toNat_natCast, Bool.not_true, Bool.not_false, fits_int, fits_bool, fits_str, fits_sl]
theorem lower_ok {l : List UInt8} (hs : l.length ≤ 1099511627776) : Rt N_words_Lower [.fz (.str (BB l))] = some ([.fz (.str (BB (l.map lowB)))], []) := by
  refine rt_call A_words_Lower rfl rfl 0 ?_
  rw [E_words_Lower, turned_ok hs _ [] lowB low1_ok]
  simp only [onR_some, onL_some, List.isEmpty_nil, allF_cons, allF_nil, Bool.and_true, Bool.true_and, when_true', List.getD_cons_zero, List.getD_cons_succ, isF_fz, toF_fz, isBool_bool, toBool_bool, isInt_int, toInt_int, isStr_str, toStr_str, isSl_sl, toSl_sl, List.length_cons, List.length_nil, List.all_cons, List.all_nil, lisFz_fz, ltoFz_fz, beq_self_eq_true, jump_true, ifB_true, ifB_false, isF_pv, isPv_pv, toV_pv, isNil_nilp, isNil_pt, isPt_pt, toAg_ag, cell_ag, isAg_ag, fits_ag, Int.toNat_natCast, Bool.not_true, Bool.not_false, fits_int, fits_bool, fits_str, fits_sl]
/-! Blanks. -/
def blank (c : UInt8) : Bool := c.toNat == 32 || (c.toNat == 9 || (c.toNat == 10 || c.toNat == 13))
def setF : FV := .ag ((((List.replicate 256 (FV.bool false)).set 32 (.bool true)).set 9 (.bool true)).set 10 (.bool true) |>.set 13 (.bool true))
theorem mkSet_ok : Rt N_strings_makeASCIISet [.fz (.str (⟨#[32, 9, 10, 13]⟩ : ByteArray))] = some ([.fz setF, .fz (.bool true)], []) := by
  refine rt_call A_strings_makeASCIISet rfl rfl 9 ?_
  kernel_rfl
theorem set_all : ∀ n : Fin 256, (FV.isBool (FV.cell setF (0 + n.val * 1)) && (FV.toBool (FV.cell setF (0 + n.val * 1)) == (n.val == 32 || (n.val == 9 || (n.val == 10 || n.val == 13))))) = true := by decide +kernel
theorem contains_ok (c : UInt8) : Rt N_strings_asciiSet_contains [.fz (.pt 256 true setF 0), .fz (.int .u8 ((c.toNat : Nat) : Int))] = some ([.fz (.bool (blank c))], []) := by
  have hc := u8_lt c
  have h := set_all ⟨c.toNat, by omega⟩
  rw [Bool.and_eq_true] at h
  obtain ⟨h1, h2⟩ := h
  have h2 := beq_iff_eq.1 h2
  simp only at h1 h2
  have ha : FV.isAg 256 setF = true := by kernel_rfl
  have nb : Nat.blt (0 + c.toNat * 1) 256 = true := Nat.ble_eq_true_of_le (by omega)
  refine rt_call A_strings_asciiSet_contains rfl rfl 0 ?_
  rw [E_strings_asciiSet_contains, Int.toNat_natCast, h1, h2, ha, nb, decide_eq_true (show (0 : Int) ≤ ((c.toNat : Nat) : Int) by omega), decide_eq_true (show ((c.toNat : Nat) : Int) < 256 by omega)]
  rfl
/-- Without blanks at the end. -/
def rs : List UInt8 → List UInt8
  | [] => []
  | c :: t => if rs t = [] then (if blank c = true then [] else [c]) else c :: rs t
theorem rs_snoc (c : UInt8) : ∀ a : List UInt8, rs (a ++ [c]) = if blank c = true then rs a else a ++ [c]
  | [] => by simp [rs]
  | x :: a => by
    rw [List.cons_append, rs, rs_snoc c a]
    split
    · rw [rs]
    · rw [if_neg (by simp)]
theorem rs_idem : ∀ l : List UInt8, rs (rs l) = rs l
  | [] => rfl
  | c :: t => by
    rw [rs]
    split
    · split
      · rfl
      · rename_i h1 h2
        simp [rs, h2]
    · rename_i h
      rw [rs, rs_idem t, if_neg h]
theorem rs_len (l : List UInt8) : (rs l).length ≤ l.length := by
  induction l with
  | nil => simp [rs]
  | cons c t ih =>
    rw [rs]
    split
    · split <;> simp
    · simp; exact ih
def ls (l : List UInt8) : List UInt8 := l.dropWhile blank
theorem ls_rs : ∀ l : List UInt8, ls (rs l) = rs (ls l)
  | [] => rfl
  | c :: t => by
    have ih := ls_rs t
    by_cases hc : blank c = true
    · have e1 : ls (c :: t) = ls t := by simp [ls, List.dropWhile_cons, hc]
      rw [e1, rs]
      by_cases h : rs t = []
      · rw [if_pos h, if_pos hc, ← ih, h]
      · rw [if_neg h]
        have e2 : ls (c :: rs t) = ls (rs t) := by simp [ls, List.dropWhile_cons, hc]
        rw [e2, ih]
    · have e1 : ls (c :: t) = c :: t := by simp [ls, List.dropWhile_cons, hc]
      rw [e1, rs]
      by_cases h : rs t = []
      · rw [if_pos h, if_neg hc]; simp [ls, List.dropWhile_cons, hc]
      · rw [if_neg h]; simp [ls, List.dropWhile_cons, hc]
theorem ls_idem (l : List UInt8) : ls (ls l) = ls l := by
  induction l with
  | nil => rfl
  | cons c t ih =>
    by_cases hc : blank c = true
    · have e1 : ls (c :: t) = ls t := by simp [ls, List.dropWhile_cons, hc]
      rw [e1, ih]
    · have e1 : ls (c :: t) = c :: t := by simp [ls, List.dropWhile_cons, hc]
      rw [e1, e1]
theorem ls_len (l : List UInt8) : (ls l).length ≤ l.length := by
  induction l with
  | nil => simp [ls]
  | cons c t ih =>
    by_cases hc : blank c = true
    · have e1 : ls (c :: t) = ls t := by simp [ls, List.dropWhile_cons, hc]
      rw [e1]; simp; omega
    · have e1 : ls (c :: t) = c :: t := by simp [ls, List.dropWhile_cons, hc]
      rw [e1]; exact Nat.le_refl _
def trimB (l : List UInt8) : List UInt8 := ls (rs l)
theorem trim_idem (l : List UInt8) : trimB (trimB l) = trimB l := by
  unfold trimB
  rw [← ls_rs (rs l), rs_idem, ls_idem]
theorem snoc_of {l : List UInt8} (h : 0 < l.length) : ∃ a c, l = a ++ [c] := ⟨l.dropLast, l.getLast (List.length_pos_iff.1 h), (List.dropLast_concat_getLast (List.length_pos_iff.1 h)).symm⟩
theorem trimR_loop : ∀ (n : Nat) (l : List UInt8), l.length < n → l.length ≤ 1099511627776 → L_strings_trimRightASCII_1_0 Rt 0 true n (BB l) setF = some (.exit 0, X_strings_trimRightASCII_1_0 (BB (rs l))) ∧ ∀ K, L_strings_trimRightASCII_1_0 Rt K true n (BB l) setF = some (.exit 0, X_strings_trimRightASCII_1_0 (BB (rs l))) := by
  intro n
  have main : ∀ (K n : Nat) (l : List UInt8), l.length < n → l.length ≤ 1099511627776 → L_strings_trimRightASCII_1_0 Rt K true n (BB l) setF = some (.exit 0, X_strings_trimRightASCII_1_0 (BB (rs l))) := by
    intro K n
    induction n with
    | zero => intro l h; omega
    | succ n ih =>
      intro l hn hs
      rw [L_strings_trimRightASCII_1_0_eq, BB_size]
      by_cases h0 : 0 < l.length
      · obtain ⟨a, c, rfl⟩ := snoc_of h0
        rw [List.length_append, List.length_singleton] at hn hs ⊢
        have hw : IntKind.wrap .i64 (((a.length + 1 : Nat) : Int) - 1) = (a.length : Int) := by rw [wrap64 (by omega) (by omega)]; omega
        have hb : Array.getD (BB (a ++ [c])).data a.length 0 = c := by
          have h : a.length < (BB (a ++ [c])).data.toList.length := by show a.length < (a ++ [c]).length; simp
          rw [byteAt h]
          simp [BB]
        have hx : ByteArray.extract (BB (a ++ [c])) 0 a.length = BB a := by
          rw [ext_BB, LB_BB]; simp
        have h2 := ih a (by omega) (by omega)
        rw [rs_snoc]
        simp only [decide_eq_true (show ((a.length + 1 : Nat) : Int) > 0 by omega), ifB_true, hw, decide_eq_true (show (0 : Int) ≤ (a.length : Int) by omega), decide_eq_true (show (a.length : Int) < ((a.length + 1 : Nat) : Int) by omega), decide_eq_true (show (a.length : Int) ≤ ((a.length + 1 : Nat) : Int) by omega), decide_eq_true (show (0 : Int) ≤ 0 by omega), Bool.and_true, when_true', Int.toNat_natCast, hb, contains_ok, onR_some, List.isEmpty_nil, allF_cons, allF_nil, List.getD_cons_zero, toF_fz, isBool_bool, toBool_bool, hx, h2]
        cases blank c <;> rfl
      · have : l = [] := List.length_eq_zero_iff.1 (by omega)
        subst this
        rfl
  exact fun l h1 h2 => ⟨main 0 n l h1 h2, fun K => main K n l h1 h2⟩
theorem trimL_loop (K : Nat) : ∀ (n : Nat) (l : List UInt8), l.length < n → l.length ≤ 1099511627776 → L_strings_trimLeftASCII_1_0 Rt K true n (BB l) setF = some (.exit 0, X_strings_trimLeftASCII_1_0 (BB (ls l))) := by
  intro n
  induction n with
  | zero => intro l h; omega
  | succ n ih =>
    intro l hn hs
    rw [L_strings_trimLeftASCII_1_0_eq, BB_size]
    cases l with
    | nil => rfl
    | cons c t =>
      rw [List.length_cons] at hn hs ⊢
      have hb : Array.getD (BB (c :: t)).data 0 0 = c := by
        have h : 0 < (BB (c :: t)).data.toList.length := by show 0 < (c :: t).length; simp
        rw [byteAt h]; rfl
      have hx : ByteArray.extract (BB (c :: t)) 1 (t.length + 1) = BB t := by
        rw [ext_BB, LB_BB]; simp
      have h2 := ih t (by omega) (by omega)
      simp only [decide_eq_true (show ((t.length + 1 : Nat) : Int) > 0 by omega), decide_eq_true (show (0 : Nat) < t.length + 1 by omega), decide_eq_true (show (0 : Int) < ((t.length + 1 : Nat) : Int) by omega), decide_eq_true (show (0 : Int) ≤ ((t.length + 1 : Nat) : Int) by omega), decide_eq_true (show ((t.length + 1 : Nat) : Int) ≤ ((t.length + 1 : Nat) : Int) by omega), decide_eq_true (show (0 : Int) ≤ 1 by omega), decide_eq_true (show (1 : Int) ≤ ((t.length + 1 : Nat) : Int) by omega), ifB_true, Bool.and_true, when_true', Int.toNat_natCast, hb, contains_ok, onR_some, List.isEmpty_nil, allF_cons, allF_nil, List.getD_cons_zero, toF_fz, isBool_bool, toBool_bool, hx, h2]
      have e : ls (c :: t) = if blank c = true then ls t else c :: t := by
        by_cases hc : blank c = true <;> simp [ls, List.dropWhile_cons, hc]
      rw [e]
      cases blank c <;> rfl
theorem trim_ok {l : List UInt8} (hs : l.length ≤ 1099511627776) : Rt N_words_Trim [.fz (.str (BB l))] = some ([.fz (.str (BB (trimB l)))], []) := by
  have hR : Rt N_strings_trimRightASCII [.fz (.str (BB l)), .fz (.pt 256 true setF 0)] = some ([.fz (.str (BB (rs l)))], []) := by
    refine rt_call A_strings_trimRightASCII rfl rfl (l.length + 1) ?_
    rw [E_strings_trimRightASCII, (trimR_loop (l.length + 1) l (by omega) hs).2, onL_some, X_strings_trimRightASCII_1_0_eq]
  have hr := rs_len l
  have hL : Rt N_strings_trimLeftASCII [.fz (.str (BB (rs l))), .fz (.pt 256 true setF 0)] = some ([.fz (.str (BB (ls (rs l))))], []) := by
    refine rt_call A_strings_trimLeftASCII rfl rfl (l.length + 1) ?_
    rw [E_strings_trimLeftASCII, trimL_loop _ (l.length + 1) (rs l) (by omega) (by omega), onL_some, X_strings_trimLeftASCII_1_0_eq]
  have hT : Rt N_strings_Trim [.fz (.str (BB l)), .fz (.str (⟨#[32, 9, 10, 13]⟩ : ByteArray))] = some ([.fz (.str (BB (trimB l)))], []) := by
    refine rt_call A_strings_Trim rfl rfl 0 ?_
    rw [E_strings_Trim, BB_nil, BB_beq]
    by_cases h0 : l = []
    · subst h0
      rw [decide_eq_true rfl, ifB_true]; rfl
    · rw [decide_eq_false h0, ifB_false]
      have e1 : ((⟨#[32, 9, 10, 13]⟩ : ByteArray).toList == (BB []).toList) = false := by
        show ((BB [32, 9, 10, 13]).toList == (BB []).toList) = false
        rw [BB_beq]; rfl
      have e2 : (((⟨#[32, 9, 10, 13]⟩ : ByteArray).size : Int) == 1) = false := rfl
      have f1 : FV.fits 256 true setF = true := by kernel_rfl
      rw [e1, ifB_false, jump_true, J_strings_Trim_4_0_eq, e2, ifB_false, jump_true, J_strings_Trim_1_0_eq, ifB_false, jump_true, J_strings_Trim_2_0_eq, mkSet_ok]
      simp only [onR_some, onL_some, List.isEmpty_nil, allF_cons, allF_nil, Bool.and_true, Bool.true_and, when_true', List.getD_cons_zero, List.getD_cons_succ, isF_fz, toF_fz, isBool_bool, toBool_bool, isInt_int, toInt_int, isStr_str, toStr_str, isSl_sl, toSl_sl, List.length_cons, List.length_nil, List.all_cons, List.all_nil, lisFz_fz, ltoFz_fz, beq_self_eq_true, jump_true, ifB_true, ifB_false, isF_pv, isPv_pv, toV_pv, isNil_nilp, isNil_pt, isPt_pt, toAg_ag, cell_ag, isAg_ag, fits_ag, Int.toNat_natCast, Bool.not_true, Bool.not_false, fits_int, fits_bool, fits_str, fits_sl, f1, hR, hL]
      rfl
  refine rt_call A_words_Trim rfl rfl 0 ?_
  rw [E_words_Trim, hT]
  simp only [onR_some, onL_some, List.isEmpty_nil, allF_cons, allF_nil, Bool.and_true, Bool.true_and, when_true', List.getD_cons_zero, List.getD_cons_succ, isF_fz, toF_fz, isBool_bool, toBool_bool, isInt_int, toInt_int, isStr_str, toStr_str, isSl_sl, toSl_sl, List.length_cons, List.length_nil, List.all_cons, List.all_nil, lisFz_fz, ltoFz_fz, beq_self_eq_true, jump_true, ifB_true, ifB_false, isF_pv, isPv_pv, toV_pv, isNil_nilp, isNil_pt, isPt_pt, toAg_ag, cell_ag, isAg_ag, fits_ag, Int.toNat_natCast, Bool.not_true, Bool.not_false, fits_int, fits_bool, fits_str, fits_sl]
/-! Where a part stands. -/
theorem idxS_ok (s sub : List UInt8) (hs : s.length < 4294967281) : Rt N_strings_Index [.fz (.str (BB s)), .fz (.str (BB sub))] = some ([.fz (.int .i64 (index s sub))], []) := by
  refine rt_prim (af := A_index) (p := indexQ) rfl rfl ?_
  have hb : Nat.blt (BB s).size 4294967281 = true := Nat.ble_eq_true_of_le hs
  match sub with
  | [] => unfold indexQ; simp only [BB, List.toList_toArray]; exact when_go hb rfl
  | [b] => rw [Lib.index_one]; rfl
  | b :: c :: r => unfold indexQ; simp only [BB, List.toList_toArray]; exact when_go hb rfl
theorem hasG_ok (s sub : List UInt8) (hs : s.length < 4294967281) : Rt N_words_Has [.fz (.str (BB s)), .fz (.str (BB sub))] = some ([.fz (.bool (decide (0 ≤ index s sub)))], []) := by
  refine rt_call A_words_Has rfl rfl 0 ?_
  rw [E_words_Has, idxS_ok s sub hs]
  simp only [onR_some, onL_some, List.isEmpty_nil, allF_cons, allF_nil, Bool.and_true, Bool.true_and, when_true', List.getD_cons_zero, List.getD_cons_succ, isF_fz, toF_fz, isBool_bool, toBool_bool, isInt_int, toInt_int, isStr_str, toStr_str, isSl_sl, toSl_sl, List.length_cons, List.length_nil, List.all_cons, List.all_nil, lisFz_fz, ltoFz_fz, beq_self_eq_true, jump_true, ifB_true, ifB_false, isF_pv, isPv_pv, toV_pv, isNil_nilp, isNil_pt, isPt_pt, toAg_ag, cell_ag, isAg_ag, fits_ag, Int.toNat_natCast, Bool.not_true, Bool.not_false, fits_int, fits_bool, fits_str, fits_sl, ge_iff_le]
end Go.Ab
