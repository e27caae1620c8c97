/- Objects: a key's place, put and get. -/
import Derived.Test.YtjkdheebgmnpmaaSJval1
namespace Go.Ab
set_option linter.unusedVariables false
set_option linter.unusedSimpArgs false

def bltB (a b : ByteArray) : Bool := Op.bytesLess a.toList b.toList

def placeN : List ByteArray → ByteArray → Nat × Bool
  | [], _ => (0, false)
  | s :: r, key => match bltB s key with
    | true => ((placeN r key).1 + 1, (placeN r key).2)
    | false => (0, s.toList == key.toList)

theorem placeN_le : ∀ (l : List ByteArray) (key : ByteArray), (placeN l key).1 ≤ l.length ∧ ((placeN l key).2 = true → (placeN l key).1 < l.length)
  | [], _ => by simp [placeN]
  | s :: r, key => by
    have := placeN_le r key
    rw [placeN]
    cases bltB s key with
    | true => simp only [List.length_cons]; exact ⟨by omega, fun h => by have := this.2 h; omega⟩
    | false => simp

theorem place_ok (ks : List ByteArray) (key : ByteArray) (hk : ks.length ≤ 1152921504606846976) : Rt N_jval_place [.fz (.sl (ks.map .str)), .fz (.str key)] = some ([.fz (.int .i64 (placeN ks key).1), .fz (.bool (placeN ks key).2)], []) := by
  have loop : ∀ (j : Nat) (i : Nat), i + j = ks.length → onL (L_jval_place_1_0 Rt (ks.length + 1) true (j + 1) (ks.map .str) key (ks.map .str) ks.length i) (K_jval_place_1 Rt (ks.length + 1) true) = some ([.fz (.int .i64 ((i : Int) + ((placeN (ks.drop i) key).1 : Int))), .fz (.bool (placeN (ks.drop i) key).2)], []) := by
    intro j
    induction j with
    | zero =>
      intro i hij
      rw [L_jval_place_1_0_eq]
      simp [show ¬ ((i : Int) < (ks.length : Int)) by omega, onL_some, X_jval_place_1_1_eq, List.drop_eq_nil_of_le (show ks.length ≤ i by omega), placeN]
      omega
    | succ j jh =>
      intro i hij
      have hl : i < ks.length := by omega
      have h2 := jh (i + 1) (by omega)
      push_cast at h2
      have hw : IntKind.wrap .i64 ((i : Int) + 1) = (i : Int) + 1 := wrap64 (by omega) (by omega)
      rw [L_jval_place_1_0_eq, drop_cons hl, placeN]
      cases hb : bltB ks[i] key with
      | true =>
        have hb' : Op.bytesLess ks[i].toList key.toList = true := hb
        simp [show (i : Int) < (ks.length : Int) by omega, List.getElem?_eq_getElem hl, hb', hw, h2]
        omega
      | false =>
        have hb' : Op.bytesLess ks[i].toList key.toList = false := hb
        simp [show (i : Int) < (ks.length : Int) by omega, List.getElem?_eq_getElem hl, hb', onL_some, X_jval_place_1_0_eq]
  refine rt_call A_jval_place rfl rfl (ks.length + 1) ?_
  have h := loop ks.length 0 (by omega)
  rw [show ((0 : Nat) : Int) = 0 from rfl, List.drop_zero, Int.zero_add] at h
  rw [E_jval_place, List.length_map]
  exact h

def JV.zero : JV := .mk 0 0 0 ⟨#[]⟩ [] []

/-- What Put makes. -/
def JV.put : JV → ByteArray → JV → JV
  | .mk k c s t is ks, key, v => match k != 6, (ks.length : Int) != is.length with
    | false, false => .mk 6 0 0 ⟨#[]⟩ (is.take (placeN ks key).1 ++ [v] ++ is.drop (match (placeN ks key).2 with | true => (placeN ks key).1 + 1 | false => (placeN ks key).1))
        (ks.take (placeN ks key).1 ++ [key] ++ ks.drop (match (placeN ks key).2 with | true => (placeN ks key).1 + 1 | false => (placeN ks key).1))
    | _, _ => .mk k c s t is ks

/-- What Get gets. -/
def JV.get : JV → ByteArray → JV × Bool
  | .mk k c s t is ks, key => match k != 6, (ks.length : Int) != is.length with
    | false, false => (match (placeN ks key).2 with
      | true => (is.getD (placeN ks key).1 .zero, true)
      | false => (.zero, false))
    | _, _ => (.zero, false)

theorem JV.zero_enc : JV.zero.enc = .ag [.int .i64 0, .int .i64 0, .int .i64 0, .str ⟨#[]⟩, .sl [], .sl []] := by simp [JV.zero, JV.enc_mk]

theorem when_go {β : Type} {b : Bool} {x y : Option β} (h : b = true) (h2 : x = y) : when b x = y := by rw [h]; exact h2

/-- A value in which there is room for some more. -/
structure Roomy (v : JV) (n : Nat) : Prop where
  is : (v.is.length + n) * 88 ≤ roomy
  ks : (v.ks.length + n) * 16 ≤ roomy

theorem get_ok {o : JV} (ho : o.ks.length ≤ 1152921504606846976) (key : ByteArray) : Rt N_jval_Get [.fz o.enc, .fz (.str key)] = some ([.fz (o.get key).1.enc, .fz (.bool (o.get key).2)], []) := by
  obtain ⟨k, c, s, t, is, ks⟩ := o
  simp only [JV.ks] at ho
  refine rt_call A_jval_Get rfl rfl 0 ?_
  rw [JV.enc_mk, E_jval_Get]
  simp only [List.length_map]
  unfold JV.get
  cases b1 : k != 6 with
  | true => simp [b1, JV.zero_enc]
  | false =>
    cases b2 : (ks.length : Int) != is.length with
    | true => simp [b1, b2, JV.zero_enc]
    | false =>
      simp only [jump_true]
      rw [J_jval_Get_1_0_eq, place_ok ks key ho, onR_some]
      have hl := placeN_le ks key
      cases b3 : (placeN ks key).2 with
      | false => simp [b1, b2, b3, JV.zero_enc]
      | true =>
        have hlt := hl.2 b3
        have heq : ks.length = is.length := by simp at b2; omega
        have hi : (placeN ks key).1 < is.length := by omega
        simp [b1, b2, b3, hi, List.getElem?_eq_getElem hi]

theorem putJ (key : ByteArray) (is : List JV) (ks : List ByteArray) (i j : Nat) (hi : i ≤ ks.length) (hj : j ≤ ks.length) (heq : ks.length = is.length) (r1 : (is.length + 1) * 88 ≤ roomy) (r2 : (ks.length + 1) * 16 ≤ roomy) (hij : i ≤ j) (a b c a' b' c' a'' b'' c'' : Int) (t t' t'' : ByteArray) (l m : List FV) :
    J_jval_Put_1_0 Rt 0 true key (i : Int) (j : Int) a b c t (is.map JV.enc) (ks.map .str) a' b' c' t' l m a'' b'' c'' t'' = some ([.fz (.ag [.int .i64 6, .int .i64 0, .int .i64 0, .str ⟨#[]⟩, .sl ((is.map JV.enc).take i ++ [.ag [.int .i64 a', .int .i64 b', .int .i64 c', .str t', .sl l, .sl m]] ++ (is.map JV.enc).drop j), .sl ((ks.map .str).take i ++ [.str key] ++ (ks.map .str).drop j)])], []) := by
  have t1 : (is.map JV.enc).take is.length = is.map JV.enc := List.take_of_length_le (by simp)
  have t2 : (ks.map FV.str).take ks.length = ks.map FV.str := List.take_of_length_le (by simp)
  have e1 : min i ks.length = i := by omega
  have e2 : min i is.length = i := by omega
  rw [J_jval_Put_1_0_eq]
  simp only [List.length_map, Int.toNat_natCast, t1, t2, List.drop_zero]
  repeat (refine when_go (by first | exact all_fits_str _ | exact JV.all_fits _ | (simp [← List.map_take, ← List.map_drop, e1, e2] <;> omega)) ?_)
  exact Eq.refl _

theorem put_ok {o v : JV} (ho : Roomy o 1) (key : ByteArray) : Rt N_jval_Put [.fz o.enc, .fz (.str key), .fz v.enc] = some ([.fz (o.put key v).enc], []) := by
  obtain ⟨k, c, s, t, is, ks⟩ := o
  obtain ⟨k', c', s', t', is', ks'⟩ := v
  have r1 : (is.length + 1) * 88 ≤ roomy := ho.is
  have r2 : (ks.length + 1) * 16 ≤ roomy := ho.ks
  have r3 : ks.length ≤ 1152921504606846976 := by have : roomy = 140737488355328 := rfl; omega
  refine rt_call A_jval_Put rfl rfl 0 ?_
  rw [JV.enc_mk, JV.enc_mk, E_jval_Put]
  simp only [List.length_map]
  unfold JV.put
  cases b1 : k != 6 with
  | true => simp [b1, JV.enc_mk]
  | false =>
    cases b2 : (ks.length : Int) != is.length with
    | true => simp [b1, b2, JV.enc_mk]
    | false =>
      simp only [jump_true]
      rw [J_jval_Put_2_0_eq, place_ok ks key r3, onR_some]
      have hl := placeN_le ks key
      have heq : ks.length = is.length := by simp at b2; omega
      cases b3 : (placeN ks key).2 with
      | false =>
        simp only [toBool_bool, isBool_bool, isInt_int, toInt_int, when_true', List.isEmpty_nil, allF_cons, allF_nil, Bool.and_true, List.getD_cons_zero, List.getD_cons_succ, toF_fz, jump_true]
        rw [putJ key is ks _ _ hl.1 hl.1 heq r1 r2 (Nat.le_refl _)]
        simp [b1, b2, b3, JV.enc_mk, List.map_take, List.map_drop]
      | true =>
        have hlt := hl.2 b3
        have hw : IntKind.wrap .i64 (((placeN ks key).1 : Int) + 1) = (((placeN ks key).1 + 1 : Nat) : Int) := by rw [wrap64 (by omega) (by omega)]; omega
        simp only [hw, toBool_bool, isBool_bool, isInt_int, toInt_int, when_true', List.isEmpty_nil, allF_cons, allF_nil, Bool.and_true, List.getD_cons_zero, List.getD_cons_succ, toF_fz, jump_true]
        rw [putJ key is ks _ _ hl.1 (by omega) heq r1 r2 (by omega)]
        simp [b1, b2, b3, JV.enc_mk, List.map_take, List.map_drop]
end Go.Ab
