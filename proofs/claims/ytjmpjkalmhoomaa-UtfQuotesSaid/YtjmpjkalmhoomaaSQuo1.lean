/- How the reference quotes signs; how many signs a text has; its first ones. -/
import Derived.Test.YtjmpjkalmhoomaaSDec
namespace Go.Ab
set_option linter.unusedVariables false
set_option linter.unusedSimpArgs false
set_option linter.unusedSectionVars false
def cells (l : List UInt8) : List FV := l.map fun b => .int .u8 ((b.toNat : Nat) : Int)
theorem cells_app (a b : List UInt8) : cells (a ++ b) = cells a ++ cells b := by simp [cells]
theorem cells_len (a : List UInt8) : (cells a).length = a.length := by simp [cells]
theorem cells_all (a : List UInt8) : List.all (cells a) (FV.isInt .u8) = true := by simp [cells]
theorem cells_fits (a : List UInt8) : List.all (cells a) (FV.fits 1 false) = true := by simp [cells]
theorem cells_back (a : List UInt8) : (⟨(List.map (fun e => UInt8.ofNat (FV.toInt e).toNat) (cells a)).toArray⟩ : ByteArray) = qB a := by
  have : List.map (fun e => UInt8.ofNat (FV.toInt e).toNat) (cells a) = a := by
    unfold cells
    rw [List.map_map]
    conv => rhs; rw [← List.map_id a]
    exact List.map_congr_left fun b _ => by simp
  rw [this]; rfl
theorem putB_range {c : Int} (h0 : 0 ≤ c) (h1 : c ≤ 1114111) : ∀ e ∈ putB c, 0 ≤ e ∧ e ≤ 255 := by
  intro e he
  unfold putB at he
  split at he
  · simp at he; omega
  · split at he
    · simp at he; omega
    · split at he
      · simp at he; omega
      · simp at he; omega
theorem put_cells {c : Int} (h0 : 0 ≤ c) (h1 : c ≤ 1114111) : (putB c).map (FV.int .u8) = cells (toB (putB c)) := by
  unfold cells toB
  rw [List.map_map]
  refine List.map_congr_left fun e he => ?_
  obtain ⟨a, b⟩ := putB_range h0 h1 e he
  simp only [Function.comp]
  rw [UInt8.toNat_ofNat_of_lt' (show e.toNat < 256 by omega), Int.toNat_of_nonneg a]
theorem sign_hex (e : Int) (h0 : 0 ≤ e) (h1 : e < 32) : Array.getD (⟨#[48, 49, 50, 51, 52, 53, 54, 55, 56, 57, 97, 98, 99, 100, 101, 102]⟩ : ByteArray).data (Int.toNat (IntKind.wrap .i64 (Int.tdiv e 16))) 0 = hexB (e / 16) ∧ Array.getD (⟨#[48, 49, 50, 51, 52, 53, 54, 55, 56, 57, 97, 98, 99, 100, 101, 102]⟩ : ByteArray).data (Int.toNat (Int.tmod e 16)) 0 = hexB (e % 16) ∧ (decide (0 ≤ (IntKind.wrap .i64 (Int.tdiv e 16))) && decide ((IntKind.wrap .i64 (Int.tdiv e 16)) < (ByteArray.size (⟨#[48, 49, 50, 51, 52, 53, 54, 55, 56, 57, 97, 98, 99, 100, 101, 102]⟩ : ByteArray) : Int))) = true ∧ (decide (0 ≤ (Int.tmod e 16)) && decide ((Int.tmod e 16) < (ByteArray.size (⟨#[48, 49, 50, 51, 52, 53, 54, 55, 56, 57, 97, 98, 99, 100, 101, 102]⟩ : ByteArray) : Int))) = true := by
  have h' : e = 0 ∨ e = 1 ∨ e = 2 ∨ e = 3 ∨ e = 4 ∨ e = 5 ∨ e = 6 ∨ e = 7 ∨ e = 8 ∨ e = 9 ∨ e = 10 ∨ e = 11 ∨ e = 12 ∨ e = 13 ∨ e = 14 ∨ e = 15 ∨ e = 16 ∨ e = 17 ∨ e = 18 ∨ e = 19 ∨ e = 20 ∨ e = 21 ∨ e = 22 ∨ e = 23 ∨ e = 24 ∨ e = 25 ∨ e = 26 ∨ e = 27 ∨ e = 28 ∨ e = 29 ∨ e = 30 ∨ e = 31 := by omega
  rcases h' with rfl | rfl | rfl | rfl | rfl | rfl | rfl | rfl | rfl | rfl | rfl | rfl | rfl | rfl | rfl | rfl | rfl | rfl | rfl | rfl | rfl | rfl | rfl | rfl | rfl | rfl | rfl | rfl | rfl | rfl | rfl | rfl
  all_goals exact ⟨rfl, rfl, rfl, rfl⟩
section
variable (l : List Int) (hl : l.length ≤ 1099511627776) (hf : ∀ c ∈ l, 0 ≤ c ∧ c ≤ 1114111 ∧ ¬ (55296 ≤ c ∧ c < 57344))
def hexS : ByteArray := ⟨#[48, 49, 50, 51, 52, 53, 54, 55, 56, 57, 97, 98, 99, 100, 101, 102]⟩
theorem getD_intQ {i : Nat} (h : i < l.length) : List.getD (l.map (FV.int .i64)) i FV.nilp = .int .i64 l[i] := by
  simp [List.getD, h]
theorem room_ok {n : Nat} (h : n ≤ 140737488355328) : (decide (n * 1 ≤ roomy) && decide (n ≤ roomy)) = true := by
  have : roomy = 140737488355328 := rfl
  rw [Bool.and_eq_true, decide_eq_true_eq, decide_eq_true_eq]; omega
theorem rq_short (K n : Nat) (i : Nat) (hi : i ≤ 1099511627776) (c : Int) (f : List UInt8) (acc : List UInt8) (hne : f ≠ []) (hlen : acc.length + f.length ≤ 140737488355328) (a : List FV) :
    J_ref03_Quote_1_0 Rt0 K true n a hexS (i : Int) c (qB f) (cells acc) = L_ref03_Quote_1_0 Rt0 K true n a hexS ((i + 1 : Nat) : Int) (cells (acc ++ f)) := by
  have hb : (ByteArray.toList (qB f) == ByteArray.toList (⟨#[]⟩ : ByteArray)) = false := by
    rw [bytes_beq]
    refine decide_eq_false fun e => hne ?_
    have := congrArg (fun s : ByteArray => s.data.toList) e
    simpa [qB] using this
  have hw : IntKind.wrap .i64 ((i : Int) + 1) = ((i + 1 : Nat) : Int) := by rw [wrap64 (by omega) (by omega)]; simp
  have e : List.map (fun b => FV.int .u8 ((UInt8.toNat b : Nat) : Int)) (qB f).data.toList = cells f := rfl
  rw [J_ref03_Quote_1_0_eq, hb, Bool.not_false, ifB_true, e, cells_len, cells_len, room_ok hlen, when_true', hw, cells_app]
theorem rq_empty (K n : Nat) (i : Nat) (hi : i ≤ 1099511627776) (c : Int) (h0 : 0 ≤ c) (h1 : c ≤ 1114111) (h2 : ¬ (55296 ≤ c ∧ c < 57344)) (h3 : ¬ c = 34) (h4 : ¬ c = 92) (h5 : ¬ c = 8) (h6 : ¬ c = 9) (h7 : ¬ c = 10) (h8 : ¬ c = 12) (h9 : ¬ c = 13) (acc : List UInt8) (hlen : acc.length + 6 ≤ 140737488355328) (a : List FV) :
    J_ref03_Quote_1_0 Rt0 K true n a hexS (i : Int) c (⟨#[]⟩ : ByteArray) (cells acc) = L_ref03_Quote_1_0 Rt0 K true n a hexS ((i + 1 : Nat) : Int) (cells (acc ++ quoteB c)) := by
  have hw : IntKind.wrap .i64 ((i : Int) + 1) = ((i + 1 : Nat) : Int) := by rw [wrap64 (by omega) (by omega)]; simp
  rw [J_ref03_Quote_1_0_eq, bytes_beq, decide_eq_true rfl, Bool.not_true, ifB_false]
  unfold quoteB
  rw [if_neg h3, if_neg h4, if_neg h5, if_neg h6, if_neg h7, if_neg h8, if_neg h9]
  by_cases h : c < 32
  · obtain ⟨x1, x2, x3, x4⟩ := sign_hex c h0 h
    rw [decide_eq_true h, ifB_true, if_pos h]
    unfold hexS
    rw [x3, x4, when_true', when_true', x1, x2, hw]
    have e : [FV.int .u8 92, .int .u8 117, .int .u8 48, .int .u8 48, .int .u8 (((hexB (c / 16)).toNat : Nat) : Int), .int .u8 (((hexB (c % 16)).toNat : Nat) : Int)] = cells [92, 117, 48, 48, hexB (c / 16), hexB (c % 16)] := rfl
    rw [e, cells_len, cells_len, room_ok (by simpa using hlen), when_true', cells_app]
  · rw [decide_eq_false h, ifB_false, if_neg h, put3_ok h0 h1, put_cells h0 h1, enc_put h0 h1 h2]
    have hq : (toB (putB c)).length ≤ 4 := by rw [toB_len, putB_len]; repeat' split
                                              all_goals omega
    simp only [onR_some, List.isEmpty_nil, allF_cons, allF_nil, Bool.and_true, when_true', List.getD_cons_zero, isF_fz, toF_fz, isSl_sl, toSl_sl, cells_fits, cells_len, hw, cells_app]
    rw [room_ok (by omega), when_true']
include hl hf
theorem rq_loop (K : Nat) : ∀ (d i n : Nat) (acc : List UInt8), i + d = l.length → d < n → acc.length ≤ 6 * i + 1 →
    L_ref03_Quote_1_0 Rt0 K true n (l.map (.int .i64)) hexS (i : Int) (cells acc) = some (.exit 0, X_ref03_Quote_1_0 (cells (acc ++ (l.drop i).flatMap quoteB))) := by
  intro d
  induction d with
  | zero =>
    intro i n acc h1 h2 h3
    obtain ⟨n, rfl⟩ : ∃ q, n = q + 1 := ⟨n - 1, by omega⟩
    rw [L_ref03_Quote_1_0_eq, List.length_map, decide_eq_false (by omega), ifB_false, List.drop_eq_nil_of_le (by omega)]
    simp
  | succ d ih =>
    intro i n acc h1 h2 h3
    obtain ⟨n, rfl⟩ : ∃ q, n = q + 1 := ⟨n - 1, by omega⟩
    have hi : i < l.length := by omega
    obtain ⟨f0, f1, f2⟩ := hf _ (List.getElem_mem hi)
    rw [List.drop_eq_getElem_cons hi, List.flatMap_cons, ← List.append_assoc]
    have hql := quoteB_len l[i]
    rw [L_ref03_Quote_1_0_eq]
    simp only [decide_eq_true (show (i : Int) < (l.length : Int) by omega), ifB_true, List.length_map, decide_eq_true (show (0 : Int) ≤ (i : Int) by omega), Bool.and_true, when_true', Int.toNat_natCast, getD_intQ l hi, fits_int, isInt_int, toInt_int, beq_self_eq_true]
    have go : L_ref03_Quote_1_0 Rt0 K true n (l.map (.int .i64)) hexS ((i + 1 : Nat) : Int) (cells (acc ++ quoteB l[i])) = some (.exit 0, X_ref03_Quote_1_0 (cells (acc ++ quoteB l[i] ++ (l.drop (i + 1)).flatMap quoteB))) := ih (i + 1) n _ (by omega) (by omega) (by simp; omega)
    generalize l[i] = c at f0 f1 f2 go hql ⊢
    have spec : ∀ (v : Int) (f : List UInt8), quoteB v = f → f ≠ [] → f.length ≤ 6 → c = v → J_ref03_Quote_1_0 Rt0 K true n (l.map (.int .i64)) hexS (i : Int) c (qB f) (cells acc) = some (.exit 0, X_ref03_Quote_1_0 (cells (acc ++ quoteB c ++ (l.drop (i + 1)).flatMap quoteB))) := by
      rintro v f hv hne hfl rfl
      rw [rq_short K n i (by omega) c f acc hne (by omega), ← hv]
      exact go
    by_cases g1 : c = 34
    · rw [show (c == 34) = true by simpa using g1, ifB_true, jump_true]; exact spec 34 [92, 34] rfl (by simp) (by simp) g1
    · rw [show (c == 34) = false by simpa using g1, ifB_false]
      by_cases g2 : c = 92
      · rw [show (c == 92) = true by simpa using g2, ifB_true, jump_true]; exact spec 92 [92, 92] rfl (by simp) (by simp) g2
      · rw [show (c == 92) = false by simpa using g2, ifB_false]
        by_cases g3 : c = 8
        · rw [show (c == 8) = true by simpa using g3, ifB_true, jump_true]; exact spec 8 [92, 98] rfl (by simp) (by simp) g3
        · rw [show (c == 8) = false by simpa using g3, ifB_false]
          by_cases g4 : c = 9
          · rw [show (c == 9) = true by simpa using g4, ifB_true, jump_true]; exact spec 9 [92, 116] rfl (by simp) (by simp) g4
          · rw [show (c == 9) = false by simpa using g4, ifB_false]
            by_cases g5 : c = 10
            · rw [show (c == 10) = true by simpa using g5, ifB_true, jump_true]; exact spec 10 [92, 110] rfl (by simp) (by simp) g5
            · rw [show (c == 10) = false by simpa using g5, ifB_false]
              by_cases g6 : c = 12
              · rw [show (c == 12) = true by simpa using g6, ifB_true, jump_true]; exact spec 12 [92, 102] rfl (by simp) (by simp) g6
              · rw [show (c == 12) = false by simpa using g6, ifB_false]
                by_cases g7 : c = 13
                · rw [show (c == 13) = true by simpa using g7, ifB_true, jump_true]; exact spec 13 [92, 114] rfl (by simp) (by simp) g7
                · rw [show (c == 13) = false by simpa using g7, ifB_false, jump_true, rq_empty K n i (by omega) c f0 f1 f2 g1 g2 g3 g4 g5 g6 g7 acc (by omega)]
                  exact go
theorem rquote_ok : Rt0 N_ref03_Quote [.fz (.sl (l.map (.int .i64)))] = some ([.fz (.str (qB (34 :: (l.flatMap quoteB ++ [34]))))], []) := by
  refine rt_call0 A_ref03_Quote rfl rfl (l.length + 1) ?_
  have h := rq_loop l hl hf (l.length + 1) l.length 0 (l.length + 1) [34] (by omega) (by omega) (by simp)
  have hlen : ∀ m : List Int, (m.flatMap quoteB).length ≤ 6 * m.length := by
    intro m
    induction m with
    | nil => simp
    | cons c m ih => have := quoteB_len c; simp only [List.flatMap_cons, List.length_append, List.length_cons]; omega
  have hll := hlen l
  rw [E_ref03_Quote]
  have e0 : [FV.int .u8 34] = cells [34] := rfl
  rw [e0]
  simp only [Int.natCast_zero, List.drop_zero] at h
  refine (congrArg (fun x => onL x _) h).trans ?_
  rw [onL_some, X_ref03_Quote_1_0_eq, e0, cells_len, cells_len, room_ok (by rw [List.length_append]; simp only [List.length_cons, List.length_nil]; omega), when_true', ← cells_app, cells_all, when_true', cells_back]
  simp
end
/-- utf.Signs. -/
theorem nsigns_ok {s : ByteArray} (hs : s.size ≤ 1099511627776) : Rt0 N_utf_Signs [.fz (.str s)] = some ([.fz (.int .i64 (match signsL s.data.toList with | some cs => (cs.length : Int) | none => 0))], []) := by
  have loop : ∀ (pos : Nat) (cs : List Int), SgAt s pos cs → ∀ (K a n : Nat), cs.length < n → a + cs.length ≤ 1099511627776 → L_utf_Signs_1_0 Rt0 K true n (a : Int) s pos = some (.exit 0, X_utf_Signs_1_0 ((a + cs.length : Nat) : Int)) := by
    intro pos cs h
    induction h with
    | nil pos h =>
      intro K a n hn ha
      obtain ⟨n, rfl⟩ : ∃ q, n = q + 1 := ⟨n - 1, by omega⟩
      rw [L_utf_Signs_1_0_eq, show Nat.blt pos s.size = false by rw [Bool.eq_false_iff]; intro e; have := Nat.le_of_ble_eq_true e; omega, ifB_false]
      simp
    | cons pos k c cs hd h hk hk2 h0 h1 h2 hb r ih =>
      intro K a n hn ha
      obtain ⟨n, rfl⟩ : ∃ q, n = q + 1 := ⟨n - 1, by omega⟩
      simp only [List.length_cons] at hn ha
      have hw : IntKind.wrap .i64 ((a : Int) + 1) = ((a + 1 : Nat) : Int) := by rw [wrap64 (by omega) (by omega)]; simp
      rw [L_utf_Signs_1_0_eq, show Nat.blt pos s.size = true from Nat.ble_eq_true_of_le h, ifB_true, hd, hw, ih K (a + 1) n (by omega) (by omega)]
      simp only [List.length_cons]
      rw [show a + 1 + cs.length = a + (cs.length + 1) by omega]
  refine rt_call0 A_utf_Signs rfl rfl (s.size + 1) ?_
  rw [E_utf_Signs, valid_ok s (by omega)]
  cases hv : signsL s.data.toList with
  | none => simp only [Option.isSome_none, onR_some, onL_some, List.isEmpty_nil, allF_cons, allF_nil, Bool.and_true, Bool.true_and, when_true', List.getD_cons_zero, List.getD_cons_succ, isF_fz, toF_fz, isBool_bool, toBool_bool, isInt_int, toInt_int, isStr_str, toStr_str, isSl_sl, toSl_sl, List.length_cons, List.length_nil, List.all_cons, List.all_nil, lisFz_fz, ltoFz_fz, beq_self_eq_true, jump_true, ifB_true, ifB_false, isF_pv, isPv_pv, toV_pv, isNil_nilp, isNil_pt, isPt_pt, toAg_ag, cell_ag, isAg_ag, fits_ag, Int.toNat_natCast, Bool.not_true, Bool.not_false, fits_int, fits_bool, fits_str, fits_sl]
  | some cs =>
    have hS := sgAt_start hv
    have hle := hS.len (Nat.zero_le _)
    have h := loop 0 cs hS (s.size + 1) 0 (s.size + 1) (by omega) (by omega)
    simp only [Int.natCast_zero, Nat.zero_add] at h
    simp only [Option.isSome_some, onR_some, onL_some, List.isEmpty_nil, allF_cons, allF_nil, Bool.and_true, Bool.true_and, when_true', List.getD_cons_zero, List.getD_cons_succ, isF_fz, toF_fz, isBool_bool, toBool_bool, isInt_int, toInt_int, isStr_str, toStr_str, isSl_sl, toSl_sl, List.length_cons, List.length_nil, List.all_cons, List.all_nil, lisFz_fz, ltoFz_fz, beq_self_eq_true, jump_true, ifB_true, ifB_false, isF_pv, isPv_pv, toV_pv, isNil_nilp, isNil_pt, isPt_pt, toAg_ag, cell_ag, isAg_ag, fits_ag, Int.toNat_natCast, Bool.not_true, Bool.not_false, fits_int, fits_bool, fits_str, fits_sl, h, X_utf_Signs_1_0_eq]
/-- utf.First. -/
theorem first_ok {s : ByteArray} (hs : s.size ≤ 1099511627776) (b : Int) : Rt0 N_utf_First [.fz (.str s), .fz (.int .i64 b)] = some ([.fz (.str (qB (match signsL s.data.toList with | some cs => toB ((cs.take b.toNat).flatMap putB) | none => [])))], []) := by
  have loop : ∀ (pos : Nat) (cs : List Int), SgAt s pos cs → ∀ (K a n m : Nat), cs.length < n → a + cs.length ≤ 1099511627776 → b = ((a + m : Nat) : Int) → pos ≤ s.size →
      onL (L_utf_First_1_0 Rt0 K true n s b (a : Int) s pos) (K_utf_First_1 Rt0 K true) = some ([.fz (.str (qB (s.data.toList.take pos ++ toB ((cs.take m).flatMap putB))))], []) := by
    intro pos cs h
    induction h with
    | nil pos h =>
      intro K a n m hn ha hb hp
      obtain ⟨n, rfl⟩ : ∃ q, n = q + 1 := ⟨n - 1, by omega⟩
      rw [L_utf_First_1_0_eq, show Nat.blt pos s.size = false by rw [Bool.eq_false_iff]; intro e; have := Nat.le_of_ble_eq_true e; omega, ifB_false, onL_some, X_utf_First_1_1_eq]
      rw [List.take_of_length_le (by rw [bytes_size]; exact h)]
      simp [toB, qB_self]
    | cons pos k c cs hd h hk hk2 h0 h1 h2 hb0 r ih =>
      intro K a n m hn ha hb hp
      obtain ⟨n, rfl⟩ : ∃ q, n = q + 1 := ⟨n - 1, by omega⟩
      simp only [List.length_cons] at hn ha
      rw [L_utf_First_1_0_eq, show Nat.blt pos s.size = true from Nat.ble_eq_true_of_le h, ifB_true]
      cases m with
      | zero =>
        rw [show ((a : Int) == b) = true by simp [hb], ifB_true, decide_eq_true (show (0 : Int) ≤ (pos : Int) by omega), decide_eq_true (show (pos : Int) ≤ (s.size : Int) by omega)]
        simp only [Bool.and_true, when_true', decide_true, onL_some, X_utf_First_1_0_eq, Int.toNat_natCast]
        have e := extract_list s 0 pos
        rw [List.drop_zero] at e
        have e2 : ByteArray.extract s 0 pos = qB (s.data.toList.take pos) := by
          rw [← qB_self (ByteArray.extract s 0 pos), ← e, ByteArray.toList_eq]
        have z : ∀ x : Option (AExit × St), when (decide ((0 : Nat) ≤ 0)) x = x := fun x => rfl
        rw [e2, z, onL_some, X_utf_First_1_0_eq]
        simp [toB]
      | succ m =>
        have hw : IntKind.wrap .i64 ((a : Int) + 1) = ((a + 1 : Nat) : Int) := by rw [wrap64 (by omega) (by omega)]; simp
        rw [show ((a : Int) == b) = false by rw [beq_eq_false_iff_ne]; omega, ifB_false, hd, hw, ih K (a + 1) n m (by omega) (by omega) (by omega) hk2]
        rw [List.take_succ_cons, List.flatMap_cons, show toB (putB c ++ (cs.take m).flatMap putB) = toB (putB c) ++ toB ((cs.take m).flatMap putB) by simp [toB], hb0, List.take_add, List.append_assoc]
  refine rt_call0 A_utf_First rfl rfl (s.size + 1) ?_
  rw [E_utf_First]
  by_cases g : b < 1
  · rw [decide_eq_true g, ifB_true, show b.toNat = 0 by omega]
    cases signsL s.data.toList with
    | none => rfl
    | some cs => rfl
  · rw [decide_eq_false g, ifB_false, valid_ok s (by omega)]
    cases hv : signsL s.data.toList with
    | none =>
      simp only [Option.isSome_none, onR_some, onL_some, List.isEmpty_nil, allF_cons, allF_nil, Bool.and_true, Bool.true_and, when_true', List.getD_cons_zero, List.getD_cons_succ, isF_fz, toF_fz, isBool_bool, toBool_bool, isInt_int, toInt_int, isStr_str, toStr_str, isSl_sl, toSl_sl, List.length_cons, List.length_nil, List.all_cons, List.all_nil, lisFz_fz, ltoFz_fz, beq_self_eq_true, jump_true, ifB_true, ifB_false, isF_pv, isPv_pv, toV_pv, isNil_nilp, isNil_pt, isPt_pt, toAg_ag, cell_ag, isAg_ag, fits_ag, Int.toNat_natCast, Bool.not_true, Bool.not_false, fits_int, fits_bool, fits_str, fits_sl]
      rfl
    | some cs =>
      have hS := sgAt_start hv
      have hle := hS.len (Nat.zero_le _)
      have h := loop 0 cs hS (s.size + 1) 0 (s.size + 1) b.toNat (by omega) (by omega) (by omega) (Nat.zero_le _)
      simp only [Int.natCast_zero, List.take_zero, List.nil_append] at h
      simp only [Option.isSome_some, onR_some, onL_some, List.isEmpty_nil, allF_cons, allF_nil, Bool.and_true, Bool.true_and, when_true', List.getD_cons_zero, List.getD_cons_succ, isF_fz, toF_fz, isBool_bool, toBool_bool, isInt_int, toInt_int, isStr_str, toStr_str, isSl_sl, toSl_sl, List.length_cons, List.length_nil, List.all_cons, List.all_nil, lisFz_fz, ltoFz_fz, beq_self_eq_true, jump_true, ifB_true, ifB_false, isF_pv, isPv_pv, toV_pv, isNil_nilp, isNil_pt, isPt_pt, toAg_ag, cell_ag, isAg_ag, fits_ag, Int.toNat_natCast, Bool.not_true, Bool.not_false, fits_int, fits_bool, fits_str, fits_sl, J_utf_First_2_0_eq, h]
end Go.Ab
