/- Texts as rows of bytes; joined; told several times. -/
import Derived.Test.YtgljpoefbphhdaaDoorT
namespace Go.Ab
set_option linter.unusedVariables false
set_option linter.unusedSimpArgs false
set_option linter.unusedSectionVars false
/-- A text of these bytes. -/
def BB (l : List UInt8) : ByteArray := ⟨l.toArray⟩
def LB (s : ByteArray) : List UInt8 := s.data.toList
theorem BB_LB (s : ByteArray) : BB (LB s) = s := by unfold BB LB; rw [Array.toArray_toList]
theorem LB_BB (l : List UInt8) : LB (BB l) = l := rfl
theorem BB_size (l : List UInt8) : (BB l).size = l.length := rfl
theorem LB_len (s : ByteArray) : (LB s).length = s.size := by unfold LB; rw [Array.length_toList]; rfl
theorem BB_inj {l m : List UInt8} : BB l = BB m ↔ l = m := ⟨fun h => by simpa [LB_BB] using congrArg LB h, fun h => by rw [h]⟩
theorem BB_beq (l m : List UInt8) : ((BB l).toList == (BB m).toList) = decide (l = m) := by
  rw [bytes_beq]; simp [BB_inj]
theorem BB_nil : (⟨#[]⟩ : ByteArray) = BB [] := rfl
theorem ext_BB (s : ByteArray) (a b : Nat) : ByteArray.extract s a b = BB (((LB s).take b).drop a) := by
  apply ByteArray.ext
  rw [ByteArray.data_extract]
  simp [BB, LB, ← Array.toList_inj, List.drop_take]
theorem getD_strW (l : List ByteArray) {i : Nat} (h : i < l.length) : List.getD (l.map FV.str) i FV.nilp = .str l[i] := by
  simp [List.getD, h]

/-- Texts, joined. -/
def jn (l : List ByteArray) (b : ByteArray) : List UInt8 := Lib.join (l.map LB) (LB b)
theorem jn_nil (b : ByteArray) : jn [] b = [] := rfl
theorem jn_succ (b : ByteArray) : ∀ (l : List ByteArray) (i : Nat) (h : i < l.length), jn (l.take (i + 1)) b = jn (l.take i) b ++ (if 0 < i then LB b else []) ++ LB l[i]
  | [], i, h => by simp at h
  | x :: r, 0, _ => by simp [jn, Lib.join_one, Lib.join_nil]
  | x :: r, i + 1, h => by
    have h' : i < r.length := by simpa using h
    have e : (r.map LB)[i]? = some (LB r[i]) := by simp [h']
    simp only [jn, List.take_succ_cons, List.map_cons, Lib.join_cons, List.map_take]
    rw [Lib.joinTail_take_succ (LB b) (r.map LB) i (LB r[i]) e]
    simp [List.append_assoc]
theorem jn_take_le (b : ByteArray) (l : List ByteArray) : ∀ (i : Nat), i ≤ l.length → (jn (l.take i) b).length ≤ (jn l b).length := by
  have step : ∀ d i, i + d = l.length → (jn (l.take i) b).length ≤ (jn l b).length := by
    intro d
    induction d with
    | zero => intro i h; rw [List.take_of_length_le (by omega)]; exact Nat.le_refl _
    | succ d ih =>
      intro i h
      refine Nat.le_trans ?_ (ih (i + 1) (by omega))
      rw [jn_succ b l i (by omega)]
      simp only [List.length_append]; omega
  intro i hi
  exact step (l.length - i) i (by omega)

section
variable (l : List ByteArray) (b : ByteArray) (hl : l.length ≤ 1099511627776) (hb : b.size ≤ 1099511627776) (hs : ∀ x ∈ l, x.size ≤ 1099511627776)
include hl hb hs
/-- words.Join: the loop that counts. -/
theorem join_loop (K : Nat) : ∀ (d i n : Nat), i + d = l.length → d < n → (jn (l.take i) b).length ≤ 4096 →
    L_words_Join_1_0 Rt K true n (l.map .str) b (4096 - ((jn (l.take i) b).length : Int)) (l.map .str) (l.length : Int) (i : Int) = some (if (jn l b).length ≤ 4096 then (.exit 0, X_words_Join_1_0 (l.map .str) b) else (.ret, X_words_Join_1_1 (l.map .str) b (BB []) false)) := by
  intro d
  induction d with
  | zero =>
    intro i n h1 h2 h3
    obtain ⟨n, rfl⟩ : ∃ m, n = m + 1 := ⟨n - 1, by omega⟩
    rw [L_words_Join_1_0_eq, decide_eq_false (by omega), ifB_false]
    rw [List.take_of_length_le (by omega)] at h3
    rw [if_pos h3]
  | succ d ih =>
    intro i n h1 h2 h3
    obtain ⟨n, rfl⟩ : ∃ m, n = m + 1 := ⟨n - 1, by omega⟩
    have hi : i < l.length := by omega
    have hx := hs _ (List.getElem_mem hi)
    have hsuc := jn_succ b l i hi
    have hle := jn_take_le b l (i + 1) hi
    have hsz := congrArg List.length hsuc
    have hw : IntKind.wrap .i64 ((i : Int) + 1) = ((i + 1 : Nat) : Int) := by rw [wrap64 (by omega) (by omega)]; simp
    have tail : ∀ c : Int, c - (l[i].size : Int) = 4096 - ((jn (l.take (i + 1)) b).length : Int) → J_words_Join_1_0 Rt K true n (l.map .str) b c l[i] (l.map .str) (l.length : Int) (i : Int) = some (if (jn l b).length ≤ 4096 then (.exit 0, X_words_Join_1_0 (l.map .str) b) else (.ret, X_words_Join_1_1 (l.map .str) b (BB []) false)) := by
      intro c hc
      have hlb := LB_len b
      have hlx := LB_len l[i]
      have hm : ((jn (l.take (i + 1)) b).length : Int) ≤ 4096 + 2199023255552 := by
        rw [hsz]
        simp only [List.length_append]
        split <;> simp only [hlb, hlx, List.length_nil] <;> omega
      have hw2 : IntKind.wrap .i64 (c - (l[i].size : Int)) = 4096 - ((jn (l.take (i + 1)) b).length : Int) := by
        rw [hc, wrap64 (by omega) (by omega)]
      rw [J_words_Join_1_0_eq, hw2, hw]
      by_cases g : (jn (l.take (i + 1)) b).length ≤ 4096
      · rw [decide_eq_false (by omega), ifB_false]
        exact ih (i + 1) n (by omega) (by omega) g
      · rw [decide_eq_true (by omega), ifB_true, if_neg (by omega)]
        rfl
    rw [L_words_Join_1_0_eq]
    simp only [decide_eq_true (show (i : Int) < (l.length : Int) by omega), ifB_true, List.length_map, decide_eq_true (show (0 : Int) ≤ (i : Int) by omega), Bool.and_true, when_true', Int.toNat_natCast, getD_strW l hi, fits_str, isStr_str, toStr_str]
    have hlb := LB_len b
    have hlx := LB_len l[i]
    by_cases h0 : 0 < i
    · rw [decide_eq_true (by omega), ifB_true, jump_true]
      rw [if_pos h0] at hsz
      simp only [List.length_append, hlb, hlx] at hsz
      rw [wrap64 (by omega) (by omega)]
      exact tail _ (by omega)
    · rw [decide_eq_false (by omega), ifB_false, jump_true]
      rw [if_neg h0] at hsz
      simp only [List.length_append, hlx, List.length_nil] at hsz
      exact tail _ (by omega)

theorem wjoin_ok : Rt N_words_Join [.fz (.sl (l.map .str)), .fz (.str b)] = some ([.fz (.str (if (jn l b).length ≤ 4096 then BB (jn l b) else BB [])), .fz (.bool (decide ((jn l b).length ≤ 4096)))], []) := by
  refine rt_call A_words_Join rfl rfl (l.length + 1) ?_
  have h := join_loop l b hl hb hs (l.length + 1) l.length 0 (l.length + 1) (by omega) (by omega) (by simp [jn_nil])
  have e0 : (4096 : Int) - ((jn (l.take 0) b).length : Int) = 4096 := by simp [jn_nil]
  rw [e0] at h
  rw [E_words_Join, List.length_map]
  simp only [Int.natCast_zero] at h
  rw [h, onL_some]
  by_cases g : (jn l b).length ≤ 4096
  · simp only [if_pos g, X_words_Join_1_0_eq]
    have hp : Rt N_strings_Join [.fz (.sl (l.map .str)), .fz (.str b)] = some ([.fz (.str (BB (jn l b)))], []) := by
      refine rt_prim (af := A_join) (p := joinP) rfl rfl ?_
      have e1 : (l.map FV.str).all FV.isStr = true := by simp
      have e2 : Lib.join ((l.map FV.str).map fun e => e.toStr.data.toList) b.data.toList = jn l b := by simp only [jn, LB, List.map_map]; rfl
      unfold joinP
      simp only [e1, e2, List.length_map]
      rw [show Nat.ble (jn l b).length 140737488355328 = true from Nat.ble_eq_true_of_le (by omega), show Nat.ble l.length 140737488355328 = true from Nat.ble_eq_true_of_le (by omega)]
      rfl
    simp only [hp, onR_some, List.isEmpty_nil, allF_cons, allF_nil, Bool.and_true, when_true', List.getD_cons_zero, isF_fz, toF_fz, isStr_str, toStr_str, decide_eq_true g]
  · simp only [if_neg g, X_words_Join_1_1_eq, decide_eq_false g]
end

end Go.Ab
