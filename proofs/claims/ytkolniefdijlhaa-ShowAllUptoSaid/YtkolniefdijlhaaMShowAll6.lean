/- The row ShowAll, part 6 of 6: texts written for this work, merged by a program of the session. No condition. -/
import Derived.Deep.CondSized
import Derived.HandedShaped
import Derived.Test.YtkolniefdijlhaaRows
import Derived.WalkKit
import Derived.ProofKit
import Derived.OpenShut
import Derived.ShutString
import Derived.ChangeOld
import Derived.Below
import Derived.SizedLaws
import Derived.Shelf.Vars
import Derived.JoinedCond
import Derived.Test.YtkolniefdijlhaaMShowAll5
set_option linter.unusedVariables false
set_option linter.unusedSimpArgs false
set_option linter.unusedSectionVars false
section
/- What is shown of a node, by the program: all of it. -/
namespace Go.Ab
set_option linter.unusedVariables false
set_option linter.unusedSimpArgs false
set_option linter.unusedSectionVars false
/-- What is written leaves, nothing too. -/
def WrE (most : Int) (t : List UInt8) (a b : ShS) : Prop := (t = [] ∧ b = a) ∨ (t ≠ [] ∧ Wr most t a b)
theorem WrE.trans {most : Int} {t u : List UInt8} {a b c : ShS} (h : WrE most t a b) (k : WrE most u b c) : WrE most (t ++ u) a c := by
  rcases h with ⟨rfl, rfl⟩ | ⟨h0, h⟩
  · simpa using k
  · rcases k with ⟨rfl, rfl⟩ | ⟨k0, k⟩
    · rw [List.append_nil]; exact .inr ⟨h0, h⟩
    · exact .inr ⟨by simp [h0], h.trans k⟩
theorem WrE.nil (most : Int) (a : ShS) : WrE most [] a a := .inl ⟨rfl, rfl⟩
theorem WrE.wr {most : Int} {t : List UInt8} {a b : ShS} (h : WrE most t a b) (ht : t ≠ []) : Wr most t a b := by
  rcases h with ⟨h0, _⟩ | ⟨_, h⟩
  · exact absurd h0 ht
  · exact h
theorem Rdy.afterE {most : Int} {t : List UInt8} {n : Nat} {a b : ShS} (h : Rdy most (t.length + n) a) (w : WrE most t a b) : Rdy most n b := by
  rcases w with ⟨rfl, rfl⟩ | ⟨_, w⟩
  · simpa using h
  · exact h.after w
theorem putE {most : Int} (hm0 : -9223372036854775808 ≤ most) (hm1 : most ≤ 9223372036854775807) (xs : List (List UInt8)) (n : Nat) (st : ShS) (h0 : xs ≠ []) (hx : ∀ x ∈ xs, x ≠ []) (hR : Rdy most (xs.flatten.length + n) st) : ∃ st', putT most (xs.map qB) st = some st' ∧ WrE most xs.flatten st st' := by
  obtain ⟨st', h1, h2⟩ := put_wr hm0 hm1 xs n st h0 hx hR
  refine ⟨st', h1, .inr ⟨?_, h2⟩⟩
  cases xs with
  | nil => exact absurd rfl h0
  | cons x r =>
    have := hx x (List.mem_cons_self ..)
    simp [this]
theorem Rdy.eq {most : Int} {n m : Nat} {st : ShS} (h : Rdy most n st) (e : n = m) : Rdy most m st := e ▸ h
theorem ne_of_len {l : List UInt8} (h : 1 ≤ l.length) : l ≠ [] := by
  intro e; subst e; simp at h
section
variable {nm : List ByteArray} (hn : NmOk nm) {e : FV} {L : Lt} (I : IsLat e L) (hnl : L.n = nm.length) (hTx : ∀ j : Nat, j < L.n → Rt0 N_level_Lattice_Text [.fz (.pt 195 true e 0), .fz (.int .i64 j)] = some ([.fz (.str (nm.getD j ⟨#[]⟩))], [])) {most : Int} (hm0 : -9223372036854775808 ≤ most) (hm1 : most ≤ 9223372036854775807) (a : Int)
include hn I hnl hTx hm0 hm1
theorem items_show (N : Nat) (k : Int) (j : Nat) (ks : List ByteArray) (is : List ND) (hks : k = 6 → ks.length = is.length) (hkt : ∀ s ∈ ks, textB s = true) (hkz : ∀ s ∈ ks, s.size ≤ 134217728)
    (ih : ∀ v ∈ is, ∀ (st : ShS) (rest : Nat), Rdy most ((shT nm j (und L a j v)).length + rest) st → ∃ st', nodeS (.pt 195 true e 0) a most N v.enc j st = some st' ∧ WrE most (shT nm j (und L a j v)) st st') : ∀ (q i : Nat) (st : ShS) (rest : Nat), i + q = is.length →
    Rdy most ((shTs nm j k (decide (i = 0)) ((is.drop i).map (und L a j)) (ks.drop i)).length + rest) st →
    ∃ st', itemsF most (nodeS (.pt 195 true e 0) a most N) k (ks.map .str) j i ((is.drop i).map ND.enc) st = some st' ∧ (st.2 = true → st'.2 = true) ∧ (st.2 = false → WrE most (shTs nm j k (decide (i = 0)) ((is.drop i).map (und L a j)) (ks.drop i)) st st') := by
  intro q
  induction q with
  | zero =>
    intro i st rest hi hR
    rw [List.drop_eq_nil_of_le (by omega)]
    refine ⟨st, rfl, fun h => h, fun _ => ?_⟩
    simp only [List.map_nil, shTs]
    exact WrE.nil _ _
  | succ q jh =>
    intro i st rest hi hR
    have hl : i < is.length := by omega
    have hnode : isNode (is[i]).enc = true := by
      obtain ⟨b1, b2, b3, b4, b5, b6, b7, b8⟩ := is[i]
      rw [ND.enc_mk]; rfl
    rw [drop_cons hl, List.map_cons, List.map_cons, shTs_cons] at *
    simp only [itemsF]
    rw [if_neg (by rw [hnode]; simp)]
    obtain ⟨out, f⟩ := st
    cases f with
    | true => exact ⟨(out, true), by simp, fun h => h, fun h => Bool.noConfusion h⟩
    | false =>
      rw [if_neg (by simp)]
      have htl : ks.drop (i + 1) = (ks.drop i).tail := by rw [List.tail_drop]
      have hf1 : decide (i + 1 = 0) = false := decide_eq_false (by omega)
      -- the comma
      obtain ⟨s1, hc1, w1⟩ : ∃ s1, (if 0 < i then putT most [⟨#[44]⟩] (out, false) else some (out, false)) = some s1 ∧ WrE most (cma (decide (i = 0))) (out, false) s1 := by
        by_cases h0 : i = 0
        · rw [if_neg (by omega), decide_eq_true h0]
          exact ⟨_, rfl, WrE.nil _ _⟩
        · rw [if_pos (by omega)]
          rw [decide_eq_false h0] at hR ⊢
          obtain ⟨s1, h1, h2⟩ := putE hm0 hm1 [[44]] _ (out, false) (by simp) (by simp) (hR.eq (by simp only [cma, List.length_append, List.flatten_cons, List.flatten_nil, List.length_cons, List.length_nil]; rw [Nat.add_assoc]))
          exact ⟨s1, h1, by simpa [cma] using h2⟩
      have hR1 : Rdy most (((if k = 6 then qT (keyL ((ks.drop i).headD ⟨#[]⟩)) ++ [58] else []) ++ (shT nm j (und L a j is[i]) ++ shTs nm j k false ((is.drop (i + 1)).map (und L a j)) (ks.drop i).tail)).length + rest) s1 := by
        refine Rdy.afterE (hR.eq ?_) w1
        simp only [List.length_append]
        omega
      -- the key
      obtain ⟨s2, hc2, w2⟩ : ∃ s2, (if k = 6 ∧ i < (ks.map FV.str).length then (match (ks.map FV.str)[i]? with
          | some (.str k) => (qStr 87 [.str k]).bind fun e => (qStr 57 [.str e]).bind fun q => putT most [q, ⟨#[58]⟩] s1
          | _ => none) else some s1) = some s2 ∧ WrE most (if k = 6 then qT (keyL ((ks.drop i).headD ⟨#[]⟩)) ++ [58] else []) s1 s2 := by
        by_cases h6 : k = 6
        · have hlk : i < ks.length := by have := hks h6; omega
          have hhd : (ks.drop i).headD ⟨#[]⟩ = ks[i] := by rw [drop_cons hlk]; rfl
          have hsz := hkz ks[i] (List.getElem_mem hlk)
          have htx := hkt ks[i] (List.getElem_mem hlk)
          have hkz2 := keyL_size ks[i]
          have q1 := qStr_of (f := 87) (fs := [.str ks[i]]) (lift01 (key_ok ks[i] hsz))
          have q2 := qStr_of (f := 57) (fs := [.str (keyL ks[i])]) (quoted12_ok (s := keyL ks[i]) (by omega) (keyL_text htx))
          have hget : (ks.map FV.str)[i]? = some (.str ks[i]) := by rw [List.getElem?_map, List.getElem?_eq_getElem hlk]; rfl
          rw [if_pos ⟨h6, by rw [List.length_map]; exact hlk⟩, hget, if_pos h6, hhd]
          rw [if_pos h6, hhd] at hR1
          simp only [q1, q2, Option.bind_some]
          obtain ⟨s2, h1, h2⟩ := putE hm0 hm1 [qT (keyL ks[i]), [58]] _ s1 (by simp) (by
            intro x hx
            simp only [List.mem_cons, List.not_mem_nil, or_false] at hx
            rcases hx with rfl | rfl
            · exact ne_of_len (by have := qT_pos (keyL_text htx); omega)
            · simp) (hR1.eq (by simp only [List.length_append, List.flatten_cons, List.flatten_nil, List.length_cons, List.length_nil]; rw [Nat.add_assoc]))
          exact ⟨s2, h1, by simpa using h2⟩
        · rw [if_neg (fun h => h6 h.1), if_neg h6]
          exact ⟨_, rfl, WrE.nil _ _⟩
      have hR2 : Rdy most ((shT nm j (und L a j is[i])).length + ((shTs nm j k false ((is.drop (i + 1)).map (und L a j)) (ks.drop i).tail).length + rest)) s2 := by
        refine Rdy.afterE (hR1.eq ?_) w2
        simp only [List.length_append]
        omega
      obtain ⟨s3, hc3, w3⟩ := ih is[i] (List.getElem_mem hl) s2 _ hR2
      have hR3 := Rdy.afterE hR2 w3
      obtain ⟨s4, hc4, f4, w4⟩ := jh (i + 1) s3 rest (by omega) (by rw [hf1, htl]; exact hR3)
      rw [hf1, htl] at w4
      refine ⟨s4, ?_, fun h => Bool.noConfusion h, fun _ => ?_⟩
      · rw [hc1, Option.bind_some]
        refine (congrArg (Option.bind · _) hc2).trans ?_
        rw [Option.bind_some, hc3, Option.bind_some]
        exact hc4
      · refine w1.trans (w2.trans (w3.trans ?_))
        cases hs3 : s3.2 with
        | false => exact w4 hs3
        | true =>
          by_cases hnil : shTs nm j k false ((is.drop (i + 1)).map (und L a j)) (ks.drop i).tail = []
          · -- nothing is left
            have hd : is.drop (i + 1) = [] := by
              cases hd : is.drop (i + 1) with
              | nil => rfl
              | cons u r =>
                rw [hd, List.map_cons, shTs_cons] at hnil
                simp [cma] at hnil
            rw [hd, List.map_nil] at hc4
            have : s4 = s3 := by
              simp only [itemsF] at hc4
              exact (Option.some.inj hc4).symm
            rw [hnil, this]
            exact WrE.nil _ _
          · exact .inr ⟨hnil, ⟨fun _ => f4 hs3, fun h => absurd (hs3.symm.trans h) (by simp), fun h => absurd (hs3.symm.trans h) (by simp)⟩⟩
theorem node_show {v : ND} (hv : v.Sm) : mayB L v = true → ∀ (n : Nat), v.cnt ≤ n → ∀ (up : Nat) (st : ShS) (rest : Nat), Rdy most ((shT nm up (und L a up v)).length + rest) st → ∃ st', nodeS (.pt 195 true e 0) a most n v.enc up st = some st' ∧ WrE most (shT nm up (und L a up v)) st st' := by
  induction hv with
  | @mk x d k c s t is ks hi hk ht hs h ih =>
    intro hm n hcn up st rest hR
    have hT := tok_of hn I hnl hTx hm0 hm1 (ND.Sm.mk hi hk ht hs h) hm
    have hit := fun y hy => may_item hm (v := y) hy
    rw [ND.cnt_mk] at hcn
    obtain ⟨n, rfl⟩ : ∃ m, n = m + 1 := ⟨n - 1, by omega⟩
    have hk8 : k ≠ 8 := by
      intro e8
      subst e8
      simp only [mayB, strip_mk, shapeB_mk, Bool.and_eq_true, isR] at hm
      simp at hm
    cases hT with
    | mk hx hkk h3 htt hks hkt hii hh =>
    have hkk := hkk hk8
    have htt := htt hk8
    have q1 := qInt_of (fs := [.pt 195 true e 0, .int .i64 up, .int .i64 x]) (lift01 (lat_Join I up x))
    have q2 := qBool_of (fs := [.pt 195 true e 0, .int .i64 (L.joinI up x : Nat), .int .i64 a]) (lift01 (lat_Leq I (L.joinI up x : Nat) a))
    have hjl := I.ok.joinI_lt up x
    generalize hj : L.joinI up x = j at q1 q2 hjl
    rw [und_mk, hj] at hR ⊢
    simp only [nodeS, ND.enc_mk, nodeF, q1, q2, Option.bind_some]
    cases hle : L.leqI j a with
    | false =>
      rw [hle, if_neg (by simp)] at hR
      rw [if_pos rfl, if_neg (by simp)]
      have hh12 : shT nm up (holeN L) = hole12 := by unfold holeN; rw [shT_mk, if_pos rfl]
      rw [hh12] at hR ⊢
      obtain ⟨s1, h1, h2⟩ := putE hm0 hm1 [hole12] rest st (by simp) (by simp [hole12]) (by simpa using hR)
      exact ⟨s1, h1, by simpa using h2⟩
    | true =>
      rw [hle, if_pos rfl] at hR
      rw [if_neg (by simp), if_pos rfl]
      rw [shT_mk, if_neg hk8] at hR ⊢
      -- the body
      have body : ∀ (st : ShS) (rest : Nat), Rdy most ((bodyT k c s t (shTs nm j k true (is.map (und L a j)) ks)).length + rest) st → ∃ st', bodyF most (nodeS (.pt 195 true e 0) a most n) (.ag [.int .i64 x, .int .i64 d, .int .i64 k, .int .i64 c, .int .i64 s, .str t, .sl (is.map ND.enc), .sl (ks.map .str)]) j st = some st' ∧ WrE most (bodyT k c s t (shTs nm j k true (is.map (und L a j)) ks)) st st' := by
        intro st rest hR
        have one : ∀ (y : List UInt8), y ≠ [] → bodyT k c s t (shTs nm j k true (is.map (und L a j)) ks) = y → ∃ st', putT most [qB y] st = some st' ∧ WrE most y st st' := by
          intro y hy e
          rw [e] at hR
          obtain ⟨s1, h1, h2⟩ := putE hm0 hm1 [y] rest st (by simp) (by simpa using hy) (by simpa using hR)
          exact ⟨s1, h1, by simpa using h2⟩
        unfold bodyF
        simp only []
        rw [if_neg (by simp only [List.length_map]; omega)]
        by_cases h0 : k = 0
        · subst h0; exact one _ (by simp) rfl
        rw [if_neg h0]
        by_cases h1 : k = 1
        · subst h1; exact one _ (by simp) rfl
        rw [if_neg h1]
        by_cases h2 : k = 2
        · subst h2; exact one _ (by simp) rfl
        rw [if_neg h2]
        by_cases h3' : k = 3
        · have q := qStr_of (fs := [.ag [.int .i64 c, .int .i64 s]]) (pnum_ok (h3 h3'))
          rw [if_pos h3', q, Option.bind_some]
          subst h3'
          exact one _ (ne_of_len (numT_len (h3 rfl)).1) rfl
        rw [if_neg h3']
        have qq := qStr_of (fs := [.str t]) (quoted12_ok (s := t) (by omega) htt)
        have hqp := qT_pos htt
        by_cases h4 : k = 4
        · rw [if_pos h4, qq, Option.bind_some]
          subst h4
          exact one _ (ne_of_len (by omega)) rfl
        rw [if_neg h4]
        by_cases h7 : k = 7
        · rw [if_pos h7, qq, Option.bind_some]
          subst h7
          have e7 : bodyT 7 c s t (shTs nm j 7 true (is.map (und L a j)) ks) = [123, 34, 35, 33, 34, 58] ++ qT t ++ [125] := rfl
          rw [e7] at hR ⊢
          obtain ⟨s1, h1, h2⟩ := putE hm0 hm1 [[123, 34, 35, 33, 34, 58], qT t, [125]] rest st (by simp) (by
            intro y hy
            simp only [List.mem_cons, List.not_mem_nil, or_false] at hy
            rcases hy with rfl | rfl | rfl
            · simp
            · exact ne_of_len (by omega)
            · simp) (hR.eq (by simp only [List.length_append, List.flatten_cons, List.flatten_nil, List.length_cons, List.length_nil]; omega))
          exact ⟨s1, h1, by simpa using h2⟩
        rw [if_neg h7]
        have h56 : k = 5 ∨ k = 6 := by omega
        have hb := bodyT_items (k := k) (c := c) (s := s) (t := t) h56 (shTs nm j k true (is.map (und L a j)) ks)
        rw [hb] at hR ⊢
        simp only [List.length_cons, List.length_append, List.length_nil] at hR
        have its := items_show hn I hnl hTx hm0 hm1 a n k j ks is hks hkt hs (fun v hv st rest hR => ih v hv (hit v hv) n (by have := cnt_le_of_mem hv; omega) j st rest hR) is.length 0
        rw [decide_eq_true rfl, List.drop_zero, List.drop_zero] at its
        have all : ∀ (o c : UInt8), Rdy most ((shTs nm j k true (is.map (und L a j)) ks).length + (0 + 1) + 1 + rest) st → ∃ st', ((putT most [qB [o]] st).bind fun st => (itemsF most (nodeS (.pt 195 true e 0) a most n) k (ks.map .str) j 0 (is.map ND.enc) st).bind fun st => putT most [qB [c]] st) = some st' ∧ WrE most (o :: (shTs nm j k true (is.map (und L a j)) ks ++ [c])) st st' := by
          intro o c hR
          obtain ⟨s1, p1, w1⟩ := putE hm0 hm1 [[o]] _ st (by simp) (by simp) (hR.eq (m := ([[o]] : List (List UInt8)).flatten.length + ((shTs nm j k true (is.map (und L a j)) ks).length + (1 + rest))) (by simp only [List.flatten_cons, List.flatten_nil, List.length_append, List.length_cons, List.length_nil]; omega))
          have hR1 : Rdy most ((shTs nm j k true (is.map (und L a j)) ks).length + (1 + rest)) s1 := by
            refine Rdy.afterE (hR.eq ?_) w1
            simp only [List.flatten_cons, List.flatten_nil, List.length_append, List.length_cons, List.length_nil]
            omega
          obtain ⟨s2, p2, f2, w2⟩ := its s1 (1 + rest) (by omega) hR1
          have hR2 : Rdy most (1 + rest) s2 := by
            cases hs1 : s1.2 with
            | false => exact Rdy.afterE hR1 (w2 hs1)
            | true => exact fun h => by rw [f2 hs1] at h; cases h
          obtain ⟨s3, p3, w3⟩ := putE hm0 hm1 [[c]] rest s2 (by simp) (by simp) (hR2.eq (by simp))
          refine ⟨s3, ?_, ?_⟩
          · rw [show putT most [qB [o]] st = some s1 from p1, Option.bind_some, p2, Option.bind_some]
            exact p3
          · refine .inr ⟨by simp, ?_⟩
            have w1' : WrE most [o] st s1 := by simpa using w1
            have w3' : WrE most [c] s2 s3 := by simpa using w3
            cases hs1 : s1.2 with
            | false => exact (w1'.trans ((w2 hs1).trans w3')).wr (by simp)
            | true =>
              have f3 := (w3'.wr (by simp)).full (f2 hs1)
              have ww := w1'.wr (by simp)
              refine ⟨fun h => f3, fun h hl => ?_, fun _ _ => f3⟩
              have := ww.fits h (by simp only [List.length_cons, List.length_append, List.length_nil] at hl ⊢; omega)
              rw [this] at hs1
              cases hs1
        rcases h56 with h5 | h6
        · have h6' : k ≠ 6 := by omega
          rw [if_pos h5, if_neg h6', if_neg h6'] 
          obtain ⟨s3, p3, w3⟩ := all 91 93 hR
          exact ⟨s3, p3, w3⟩
        · have h5' : k ≠ 5 := by omega
          rw [if_neg h5', if_pos h6, if_pos h6, if_pos h6]
          obtain ⟨s3, p3, w3⟩ := all 123 125 hR
          exact ⟨s3, p3, w3⟩
      by_cases hup : j = up
      · rw [if_pos (by omega)] at hR ⊢
        rw [if_pos (by omega)]
        obtain ⟨s1, p1, w1⟩ := body st rest hR
        exact ⟨s1, p1, w1⟩
      · rw [if_neg (by omega)] at hR ⊢
        rw [if_neg (by omega)]
        have q3 := qStr_of (f := 58) (fs := [.pt 195 true e 0, .int .i64 j]) (lift01 (hTx j hjl))
        have hmem : nm.getD j ⟨#[]⟩ ∈ nm := by
          rw [List.getD_eq_getElem?_getD, List.getElem?_eq_getElem (by omega)]
          exact List.getElem_mem (by omega)
        have q4 := qStr_of (f := 57) (fs := [.str (nm.getD j ⟨#[]⟩)]) (quoted12_ok (by have := (hn _ hmem).1; omega) (hn _ hmem).2)
        have hqp := qT_pos (hn _ hmem).2
        rw [q3, Option.bind_some, q4, Option.bind_some]
        simp only [Int.toNat_natCast] at hR ⊢
        obtain ⟨s1, p1, w1⟩ := putE hm0 hm1 [[123, 34, 35, 34, 58], qT (nm.getD j ⟨#[]⟩), [44, 34, 61, 34, 58]] ((bodyT k c s t (shTs nm j k true (is.map (und L a j)) ks)).length + (1 + rest)) st (by simp) (by
          intro y hy
          simp only [List.mem_cons, List.not_mem_nil, or_false] at hy
          rcases hy with rfl | rfl | rfl
          · simp
          · exact ne_of_len (by omega)
          · simp) (hR.eq (by simp only [List.length_append, List.flatten_cons, List.flatten_nil, List.length_cons, List.length_nil]; omega))
        obtain ⟨s2, p2, w2⟩ := body s1 (1 + rest) (by
          refine Rdy.afterE (hR.eq ?_) w1
          simp only [List.length_append, List.flatten_cons, List.flatten_nil, List.length_cons, List.length_nil]
          omega)
        obtain ⟨s3, p3, w3⟩ := putE hm0 hm1 [[125]] rest s2 (by simp) (by simp) (by
          have := Rdy.afterE (t := bodyT k c s t (shTs nm j k true (is.map (und L a j)) ks)) (n := 1 + rest) (a := s1) (b := s2) (most := most) (by
            refine Rdy.afterE (hR.eq ?_) w1
            simp only [List.length_append, List.flatten_cons, List.flatten_nil, List.length_cons, List.length_nil]
            omega) w2
          exact this.eq (by simp))
        refine ⟨s3, ?_, ?_⟩
        · rw [show putT most [⟨#[123, 34, 35, 34, 58]⟩, qB (qT (nm.getD j ⟨#[]⟩)), ⟨#[44, 34, 61, 34, 58]⟩] st = some s1 from p1, Option.bind_some, p2, Option.bind_some]
          exact p3
        · have := w1.trans (w2.trans w3)
          simpa using this
end
end Go.Ab
end
section
/- A lattice of some policy, its table, its names. -/
namespace Go.Ab
set_option linter.unusedSimpArgs false
def nmsB (l : List ByteArray) : Bool := (l.all fun s => decide (s.size ≤ 134217728) && textB s) && ((List.range l.length).all fun i => (List.range l.length).all fun j => (!decide (l.getD i ⟨#[]⟩ = l.getD j ⟨#[]⟩)) || i == j)
theorem Sort_nm (k : Int) : ∃ P : Pol, P.ok = true ∧ nmsB P.names = true ∧ Rt0 N_ref01_Sort [.fz (.int .i64 k)] = some ([.fz P.e], []) := by
  have hr : ∀ r, callL Rt0 0 true A_ref01_Sort [.fz (.int .i64 k)] = some r → Rt0 N_ref01_Sort [.fz (.int .i64 k)] = some r := fun r h => rt_call0 A_ref01_Sort rfl rfl 0 h
  rw [E_ref01_Sort] at hr
  generalize (Int.tmod (IntKind.wrap .i64 ((Int.tmod k 6) + 6)) 6) = v at hr
  by_cases h0 : v = 0
  · refine ⟨pol0, pol0_ok, by decide +kernel, hr _ ?_⟩
    rw [show (v == 0) = true by simp [h0]]; rfl
  by_cases h1 : v = 1
  · refine ⟨pol1, pol1_ok, by decide +kernel, hr _ ?_⟩
    rw [show (v == 0) = false by simp [h0], show (v == 1) = true by simp [h1]]; rfl
  by_cases h2 : v = 2
  · refine ⟨pol2, pol2_ok, by decide +kernel, hr _ ?_⟩
    rw [show (v == 0) = false by simp [h0], show (v == 1) = false by simp [h1], show (v == 2) = true by simp [h2]]; rfl
  by_cases h3 : v = 3
  · refine ⟨pol3, pol3_ok, by decide +kernel, hr _ ?_⟩
    rw [show (v == 0) = false by simp [h0], show (v == 1) = false by simp [h1], show (v == 2) = false by simp [h2], show (v == 3) = true by simp [h3]]; rfl
  by_cases h4 : v = 4
  · refine ⟨pol4, pol4_ok, by decide +kernel, hr _ ?_⟩
    rw [show (v == 0) = false by simp [h0], show (v == 1) = false by simp [h1], show (v == 2) = false by simp [h2], show (v == 3) = false by simp [h3], show (v == 4) = true by simp [h4]]; rfl
  · refine ⟨pol5, pol5_ok, by decide +kernel, hr _ ?_⟩
    rw [show (v == 0) = false by simp [h0], show (v == 1) = false by simp [h1], show (v == 2) = false by simp [h2], show (v == 3) = false by simp [h3], show (v == 4) = false by simp [h4]]; rfl
theorem of_ok (k : Int) : ∃ P : Pol, P.ok = true ∧ nmsB P.names = true ∧ Rt0 N_law12_of [.fz (.int .i64 k)] = some ([.fz (.pt 195 true (latR P.names P.g) 0), .fz (.sl (tabL P.names.length (rowOf P.names.length P.pairs) P.names.length)), .fz (.sl (P.names.map .str))], []) := by
  obtain ⟨P, hP, hN, hS⟩ := Sort_nm k
  refine ⟨P, hP, hN, ?_⟩
  refine rt_call0 A_law12_of rfl rfl 0 ?_
  rw [E_law12_of, hS]
  have hf : FV.fits 3 true P.e = true := rfl
  have ha : FV.isAg 3 P.e = true := rfl
  have hc : P.e.cell 0 = .sl (P.names.map .str) := rfl
  simp only [onR_some, List.isEmpty_nil, allF_cons, allF_nil, Bool.and_true, when_true', List.getD_cons_zero, List.getD_cons_succ, toF_fz, hf, ha, hc, Pol.new hP, Pol.table hP, isInt_int]
end Go.Ab
end
section
/- The reference's bottom. -/
namespace Go.Ab
set_option linter.unusedVariables false
set_option linter.unusedSimpArgs false
theorem Bottom1 {t : List FV} {L : Lt} (T : IsTab t L) (h8 : L.n ≤ 8) {c K : Nat} (hc : c < L.n) : ∀ (m d N : Nat) (is : Bool), d + m = L.n → m < N →
    L_ref09_Bottom_1_0 Rt0 K true N t c is d = some (.exit 2, X_ref09_Bottom_1_0 t c (is && allI (fun d => L.leq c d) m d))
  | m, d, 0, _, _, h => by omega
  | 0, d, N + 1, is, h, _ => by
    rw [L_ref09_Bottom_1_0_eq, T.len]
    simp [show ¬ ((d : Int) < (L.n : Int)) by omega, allI]
  | m + 1, d, N + 1, is, h, hN => by
    have hd : d < L.n := by omega
    have ih := fun is => Bottom1 T h8 (K := K) hc m (d + 1) N is (by omega) (by omega)
    have hlt : decide ((d : Int) < (L.n : Int)) = true := by simp; omega
    rw [L_ref09_Bottom_1_0_eq, T.len]
    simp only [dlt hc, dlt hd, Int.toNat_natCast, T.fits c hc, T.sl c hc, T.rlen c hc, T.cell c d hc hd, fits_bool, isBool_bool, toBool_bool, when_true', wrn (show d < 1152921504606846976 by omega), ih, allI]
    rw [hlt, ifB_true]
    cases is <;> simp
theorem Bottom2 {t : List FV} {L : Lt} (T : IsTab t L) (O : L.Ok) {K : Nat} (hK : 9 < K) : ∀ (m c N : Nat), c + m = L.n → c ≤ L.bot → m < N →
    onL (L_ref09_Bottom_2_0 Rt0 K true N t c) (K_ref09_Bottom_2 Rt0 K true) = some ([.fz (.int .i64 L.bot)], [])
  | m, d, 0, _, _, h => by omega
  | 0, c, N + 1, h, hb, _ => by have := O.bot; omega
  | m + 1, c, N + 1, h, hb, hN => by
    have h8 := O.n8
    have hc : c < L.n := by omega
    have hlt : decide ((c : Int) < (L.n : Int)) = true := by simp; omega
    have i1 := Bottom1 T O.n8 (K := K) hc L.n 0 K true (by omega) (by omega)
    simp only [Int.natCast_zero] at i1
    rw [L_ref09_Bottom_2_0_eq, T.len]
    simp only [hlt, ifB_true, i1, onL_some, X_ref09_Bottom_1_0_eq, Bool.true_and, wrn (show c < 1152921504606846976 by omega)]
    cases q : allI (fun d => L.leq c d) L.n 0 with
    | true =>
      have q := allI_iff.1 q
      have e : c = L.bot := O.anti _ _ hc O.bot (q _ (by omega) (by have := O.bot; omega)) (O.botle c hc)
      subst e
      simp only [ifB_true, onL_some, X_ref09_Bottom_2_1_eq]
    | false =>
      have e : c ≠ L.bot := fun e => by
        have : allI (fun d => L.leq c d) L.n 0 = true := allI_iff.2 fun d _ hd => by subst e; exact O.botle d (by omega)
        rw [this] at q; cases q
      simp only [ifB_false]
      exact Bottom2 T O hK m (c + 1) N (by omega) (by omega) (by omega)
theorem bottom9_ok {t : List FV} {L : Lt} (T : IsTab t L) (O : L.Ok) : Rt0 N_ref09_Bottom [.fz (.sl t)] = some ([.fz (.int .i64 L.bot)], []) := by
  refine rt_call0 A_ref09_Bottom rfl rfl 12 ?_
  rw [E_ref09_Bottom]
  have h8 := O.n8
  exact Bottom2 T O (by omega) L.n 0 12 (by omega) (by omega) (by omega)
end Go.Ab
end
section
/- The reference's top. -/
namespace Go.Ab
set_option linter.unusedVariables false
set_option linter.unusedSimpArgs false
theorem Top1 {t : List FV} {L : Lt} (T : IsTab t L) (h8 : L.n ≤ 8) {c K : Nat} (hc : c < L.n) : ∀ (m d N : Nat) (is : Bool), d + m = L.n → m < N →
    L_ref09_Top_1_0 Rt0 K true N t c is d = some (.exit 2, X_ref09_Top_1_0 t c (is && allI (fun d => L.leq d c) m d))
  | m, d, 0, _, _, h => by omega
  | 0, d, N + 1, is, h, _ => by
    rw [L_ref09_Top_1_0_eq, T.len]
    simp [show ¬ ((d : Int) < (L.n : Int)) by omega, allI]
  | m + 1, d, N + 1, is, h, hN => by
    have hd : d < L.n := by omega
    have ih := fun is => Top1 T h8 (K := K) hc m (d + 1) N is (by omega) (by omega)
    have hlt : decide ((d : Int) < (L.n : Int)) = true := by simp; omega
    rw [L_ref09_Top_1_0_eq, T.len]
    simp only [dlt hc, dlt hd, Int.toNat_natCast, T.fits d hd, T.sl d hd, T.rlen d hd, T.cell d c hd hc, fits_bool, isBool_bool, toBool_bool, when_true', wrn (show d < 1152921504606846976 by omega), ih, allI]
    rw [hlt, ifB_true]
    cases is <;> simp
theorem Top2 {t : List FV} {L : Lt} (T : IsTab t L) (O : L.Ok) {K : Nat} (hK : 9 < K) : ∀ (m c N : Nat), c + m = L.n → c ≤ L.top → m < N →
    onL (L_ref09_Top_2_0 Rt0 K true N t c) (K_ref09_Top_2 Rt0 K true) = some ([.fz (.int .i64 L.top)], [])
  | m, d, 0, _, _, h => by omega
  | 0, c, N + 1, h, hb, _ => by have := O.top; omega
  | m + 1, c, N + 1, h, hb, hN => by
    have h8 := O.n8
    have hc : c < L.n := by omega
    have hlt : decide ((c : Int) < (L.n : Int)) = true := by simp; omega
    have i1 := Top1 T O.n8 (K := K) hc L.n 0 K true (by omega) (by omega)
    simp only [Int.natCast_zero] at i1
    rw [L_ref09_Top_2_0_eq, T.len]
    simp only [hlt, ifB_true, i1, onL_some, X_ref09_Top_1_0_eq, Bool.true_and, wrn (show c < 1152921504606846976 by omega)]
    cases q : allI (fun d => L.leq d c) L.n 0 with
    | true =>
      have q := allI_iff.1 q
      have e : c = L.top := O.anti _ _ hc O.top (O.letop c hc) (q _ (by omega) (by have := O.top; omega))
      subst e
      simp only [ifB_true, onL_some, X_ref09_Top_2_1_eq]
    | false =>
      have e : c ≠ L.top := fun e => by
        have : allI (fun d => L.leq d c) L.n 0 = true := allI_iff.2 fun d _ hd => by subst e; exact O.letop d (by omega)
        rw [this] at q; cases q
      simp only [ifB_false]
      exact Top2 T O hK m (c + 1) N (by omega) (by omega) (by omega)
theorem top9_ok {t : List FV} {L : Lt} (T : IsTab t L) (O : L.Ok) : Rt0 N_ref09_Top [.fz (.sl t)] = some ([.fz (.int .i64 L.top)], []) := by
  refine rt_call0 A_ref09_Top rfl rfl 12 ?_
  rw [E_ref09_Top]
  have h8 := O.n8
  exact Top2 T O (by omega) L.n 0 12 (by omega) (by omega) (by omega)
end Go.Ab
end
section
/- Erased nodes, by the reference. -/
namespace Go.Ab
set_option linter.unusedVariables false
set_option linter.unusedSimpArgs false
set_option linter.unusedSectionVars false
section
variable {t9 : List FV} {L : Lt} (T : IsTab t9 L)
include T
theorem sees_ok (x a : Int) : Rt0 N_ref11_sees [.fz (.sl t9), .fz (.int .i64 x), .fz (.int .i64 a)] = some ([.fz (.bool (L.leqI x a))], []) := by
  refine rt_call0 A_ref11_sees rfl rfl 0 ?_
  rw [E_ref11_sees, T.len]
  unfold Lt.leqI Lt.is
  by_cases h1 : 0 ≤ a
  · by_cases h2 : a < L.n
    · by_cases h3 : 0 ≤ x
      · by_cases h4 : x < L.n
        · have g1 := T.fits x.toNat (by omega)
          have g2 := T.sl x.toNat (by omega)
          have g3 := T.rlen x.toNat (by omega)
          have g4 := T.cell x.toNat a.toNat (by omega) (by omega)
          simp only [ge_iff_le, decide_eq_true h1, decide_eq_true h2, decide_eq_true h3, decide_eq_true h4, ifB_true, Bool.and_true, when_true', g1, g2, g3, g4, fits_bool, isBool_bool, toBool_bool, Bool.true_and]
        · simp only [ge_iff_le, decide_eq_true h1, decide_eq_true h2, decide_eq_true h3, decide_eq_false h4, ifB_true, ifB_false, Bool.and_false, Bool.false_and]
      · simp only [ge_iff_le, decide_eq_true h1, decide_eq_true h2, decide_eq_false h3, ifB_true, ifB_false, Bool.false_and]
    · simp only [ge_iff_le, decide_eq_true h1, decide_eq_false h2, ifB_true, ifB_false, Bool.and_false, Bool.false_and]
  · simp only [ge_iff_le, decide_eq_false h1, ifB_false, Bool.false_and, Bool.and_false]
theorem rat_ok (O : L.Ok) (a : Int) {v : ND} (hv : v.Sm) : ∀ up : Nat, up < L.n → labB L v = true → Rt0 N_ref11_At [.fz (.sl t9), .fz v.enc, .fz (.int .i64 up), .fz (.int .i64 a)] = some ([.fz (und L a up v).enc], []) := by
  have hroom : roomy = 140737488355328 := rfl
  induction hv with
  | @mk x d k c s t is ks hi hk ht hs h ih =>
    intro up hup hlab
    rw [labB_mk, Bool.and_eq_true] at hlab
    have hx := Lt.is_iff.1 hlab.1
    obtain ⟨y, rfl⟩ : ∃ y : Nat, x = y := ⟨x.toNat, by omega⟩
    have hy : y < L.n := by omega
    have hu := O.join up y hup hy
    have hj := join9_ok T O hup hy
    have hq := sees_ok T (L.join up y) a
    have htop := top9_ok T O
    refine rt_call0 A_ref11_At rfl rfl (is.length + 1) ?_
    rw [ND.enc_mk, E_ref11_At, hj, und_mk, Lt.joinI_nat hup hy]
    have hull := und_lab (L := L) O (a := a) (ND.Sm.mk (a := y) (d := d) (k := k) (c := c) (s := s) hi hk ht hs h) up
    rw [und_mk, Lt.joinI_nat hup hy] at hull
    generalize hgu : L.join up y = u at hj hq hu hull
    simp only [onR_some, onL_some, List.isEmpty_nil, allF_cons, allF_nil, Bool.and_true, Bool.true_and, when_true', List.getD_cons_zero, List.getD_cons_succ, isF_fz, toF_fz, isBool_bool, toBool_bool, isInt_int, toInt_int, isStr_str, toStr_str, isSl_sl, toSl_sl, List.length_cons, List.length_nil, List.all_cons, List.all_nil, lisFz_fz, ltoFz_fz, beq_self_eq_true, jump_true, ifB_true, ifB_false, isF_pv, isPv_pv, toV_pv, isNil_nilp, isNil_pt, isPt_pt, toAg_ag, cell_ag, isAg_ag, fits_ag, Int.toNat_natCast, Bool.not_true, Bool.not_false, fits_int, fits_bool, fits_str, fits_sl, hq]
    cases hlq : L.leqI u a with
    | false => simp only [onR_some, onL_some, List.isEmpty_nil, allF_cons, allF_nil, Bool.and_true, Bool.true_and, when_true', List.getD_cons_zero, List.getD_cons_succ, isF_fz, toF_fz, isBool_bool, toBool_bool, isInt_int, toInt_int, isStr_str, toStr_str, isSl_sl, toSl_sl, List.length_cons, List.length_nil, List.all_cons, List.all_nil, lisFz_fz, ltoFz_fz, beq_self_eq_true, jump_true, ifB_true, ifB_false, isF_pv, isPv_pv, toV_pv, isNil_nilp, isNil_pt, isPt_pt, toAg_ag, cell_ag, isAg_ag, fits_ag, Int.toNat_natCast, Bool.not_true, Bool.not_false, fits_int, fits_bool, fits_str, fits_sl, htop, holeN, ND.enc_mk, List.map_nil, Bool.false_eq_true, if_false]
    | true =>
      rw [hlq, if_pos rfl] at hull
      rw [if_pos rfl]
      simp only [onR_some, onL_some, List.isEmpty_nil, allF_cons, allF_nil, Bool.and_true, Bool.true_and, when_true', List.getD_cons_zero, List.getD_cons_succ, isF_fz, toF_fz, isBool_bool, toBool_bool, isInt_int, toInt_int, isStr_str, toStr_str, isSl_sl, toSl_sl, List.length_cons, List.length_nil, List.all_cons, List.all_nil, lisFz_fz, ltoFz_fz, beq_self_eq_true, jump_true, ifB_true, ifB_false, isF_pv, isPv_pv, toV_pv, isNil_nilp, isNil_pt, isPt_pt, toAg_ag, cell_ag, isAg_ag, fits_ag, Int.toNat_natCast, Bool.not_true, Bool.not_false, fits_int, fits_bool, fits_str, fits_sl]
      have hsm : (ND.mk (u : Int) d k c s t (is.map (und L a u)) ks).Sm := .mk (by simpa using hi) hk ht hs (fun v hv => by obtain ⟨y, hy, rfl⟩ := List.mem_map.1 hv; exact und_sm (h y hy) _)
      have hlab' : labB L (ND.mk (u : Int) d k c s t (is.map (und L a u)) ks) = true := by
        have := hull.1
        rw [labB_mk] at this ⊢; exact this
      have hdeep := deep9_ok T O hsm hlab'
      have hdp : (deepN L (ND.mk (u : Int) d k c s t (is.map (und L a u)) ks) : Int) = deepP L u (is.map (und L a u)) := by
        have := hull.2
        rw [rightB_mk, Bool.and_eq_true, decide_eq_true_eq] at this
        rw [deepN_mk]; exact this.1.symm
      rw [hdp] at hdeep
      have z : ∀ (z0 z1 z2 z3 z4 : Int) (z5 : ByteArray) (j i : Nat) (acc : List ND), i + j = is.length → acc.length = i → onL (L_ref11_At_1_1 Rt0 (is.length + 1) true (j + 1) t9 a u i y d k c s t (is.map ND.enc) (ks.map .str) z0 z1 z2 z3 z4 z5 u d k c s t (ks.map .str) (acc.map ND.enc)) (K_ref11_At_1 Rt0 (is.length + 1) true) =
          onL (some (.exit 0, X_ref11_At_1_1 t9 z0 z1 z2 z3 z4 z5 u d k c s t (ks.map .str) ((acc ++ (is.drop i).map (und L a u)).map ND.enc))) (K_ref11_At_1 Rt0 (is.length + 1) true) := by
        intro z0 z1 z2 z3 z4 z5 j
        induction j with
        | zero =>
          intro i acc hij hac
          rw [L_ref11_At_1_1_eq, List.drop_eq_nil_of_le (by omega)]
          simp only [List.length_map, decide_eq_false (show ¬ ((i : Int) < (is.length : Int)) by omega), ifB_false, List.map_nil, List.append_nil]
        | succ j jh =>
          intro i acc hij hac
          have hl : i < is.length := by omega
          have h1 := ih is[i] (List.getElem_mem hl) u hu (labBs_iff.1 hlab.2 _ (List.getElem_mem hl))
          have h2 := jh (i + 1) (acc ++ [und L a u is[i]]) (by omega) (by simp; omega)
          push_cast at h2
          rw [List.map_append, List.map_singleton, List.append_assoc, List.singleton_append] at h2
          have hw : IntKind.wrap .i64 ((i : Int) + 1) = (i : Int) + 1 := wrap64 (by omega) (by omega)
          have hro : (decide (((acc.map ND.enc).length + [(und L a u is[i]).enc].length) * 104 ≤ roomy) && decide ((acc.map ND.enc).length + [(und L a u is[i]).enc].length ≤ roomy)) = true := by simp; omega
          rw [L_ref11_At_1_1_eq, drop_cons hl, List.map_cons]
          have hg : (is.map ND.enc).getD i .nilp = (is[i]).enc := by simp [hl]
          simp only [List.length_map, decide_eq_true (show (i : Int) < (is.length : Int) by omega), decide_eq_true (show (0 : Int) ≤ (i : Int) by omega), ifB_true, Bool.and_true, when_true', Int.toNat_natCast, hg, ND.enc_fits, h1, onR_some, List.isEmpty_nil, allF_cons, allF_nil, List.getD_cons_zero, toF_fz, hw] at hro ⊢
          simp only [hro, when_true', h2]
      have fin : ∀ z0 z1 z2 z3 z4 z5, onL (some (.exit 0, X_ref11_At_1_1 t9 z0 z1 z2 z3 z4 z5 u d k c s t (ks.map .str) ((is.map (und L a u)).map ND.enc))) (K_ref11_At_1 Rt0 (is.length + 1) true) = some ([.fz (ND.mk u (deepP L u (is.map (und L a u))) k c s t (is.map (und L a u)) ks).enc], []) := by
        intro z0 z1 z2 z3 z4 z5
        rw [onL_some, X_ref11_At_1_1_eq, ← ND.enc_mk, hdeep]
        simp only [onR_some, onL_some, List.isEmpty_nil, allF_cons, allF_nil, Bool.and_true, Bool.true_and, when_true', List.getD_cons_zero, List.getD_cons_succ, isF_fz, toF_fz, isBool_bool, toBool_bool, isInt_int, toInt_int, isStr_str, toStr_str, isSl_sl, toSl_sl, List.length_cons, List.length_nil, List.all_cons, List.all_nil, lisFz_fz, ltoFz_fz, beq_self_eq_true, jump_true, ifB_true, ifB_false, isF_pv, isPv_pv, toV_pv, isNil_nilp, isNil_pt, isPt_pt, toAg_ag, cell_ag, isAg_ag, fits_ag, Int.toNat_natCast, Bool.not_true, Bool.not_false, fits_int, fits_bool, fits_str, fits_sl, ND.enc_mk]
      rw [L_ref11_At_1_0_eq]
      cases is with
      | nil =>
        simp only [List.length_map, List.length_nil, List.map_nil, decide_eq_false (show ¬ ((0 : Int) < ((0 : Nat) : Int)) by omega), ifB_false, onL_some, X_ref11_At_1_0_eq]
        rw [List.map_nil, ND.enc_mk, List.map_nil] at hdeep
        rw [hdeep]
        simp only [onR_some, onL_some, List.isEmpty_nil, allF_cons, allF_nil, Bool.and_true, Bool.true_and, when_true', List.getD_cons_zero, List.getD_cons_succ, isF_fz, toF_fz, isBool_bool, toBool_bool, isInt_int, toInt_int, isStr_str, toStr_str, isSl_sl, toSl_sl, List.length_cons, List.length_nil, List.all_cons, List.all_nil, lisFz_fz, ltoFz_fz, beq_self_eq_true, jump_true, ifB_true, ifB_false, isF_pv, isPv_pv, toV_pv, isNil_nilp, isNil_pt, isPt_pt, toAg_ag, cell_ag, isAg_ag, fits_ag, Int.toNat_natCast, Bool.not_true, Bool.not_false, fits_int, fits_bool, fits_str, fits_sl, ND.enc_mk, List.map_nil]
      | cons v0 vs =>
        have h1 := ih v0 (List.mem_cons_self ..) u hu (labBs_iff.1 hlab.2 _ (List.mem_cons_self ..))
        have h2 := z 0 0 0 0 0 (⟨#[]⟩ : ByteArray) (vs.length - 0) 1 [und L a u v0] (by simp; omega) rfl
        have hz : ∀ x : ND, (decide (((0 : Nat) + [x.enc].length) * 104 ≤ roomy) && decide ((0 : Nat) + [x.enc].length ≤ roomy)) = true := fun x => rfl
        have hz := hz (und L a u v0)
        have w0 : IntKind.wrap .i64 ((0 : Int) + 1) = ((1 : Nat) : Int) := by rw [wrap64 (by omega) (by omega)]; rfl
        have d0 : decide ((0 : Int) ≤ 0) = true := by decide
        have t0 : (0 : Int).toNat = 0 := rfl
        have hfin := fin 0 0 0 0 0 (⟨#[]⟩ : ByteArray)
        simp only [List.map_cons, List.map_nil, List.length_cons, List.length_map, decide_eq_true (show (0 : Int) < ((vs.length + 1 : Nat) : Int) by omega), d0, t0, ifB_true, Bool.and_true, when_true', List.getD_cons_zero, ND.enc_fits, h1, onR_some, List.isEmpty_nil, allF_cons, allF_nil, toF_fz, w0, Nat.sub_zero, List.drop_succ_cons, List.drop_zero, List.singleton_append] at h2 hz hfin ⊢
        simp only [hz, when_true']
        exact h2.trans hfin
theorem erase_ok (O : L.Ok) (a : Int) {v : ND} (hv : v.Sm) (hl : labB L v = true) : Rt0 N_ref11_Erase [.fz (.sl t9), .fz v.enc, .fz (.int .i64 a)] = some ([.fz (und L a L.bot v).enc], []) := by
  have h := rat_ok T O a hv L.bot O.bot hl
  have hf := (und L a L.bot v).enc_fits
  have hb := bottom9_ok T O
  obtain ⟨x, d, k, c, s, t, is, ks⟩ := v
  have hE := E_ref11_Erase Rt0 0 true t9 x d k c s t (is.map ND.enc) (ks.map .str) a
  rw [← ND.enc_mk] at hE
  refine rt_call0 A_ref11_Erase rfl rfl 0 (hE.trans ?_)
  simp only [hb, onR_some, onL_some, List.isEmpty_nil, allF_cons, allF_nil, Bool.and_true, Bool.true_and, when_true', List.getD_cons_zero, List.getD_cons_succ, isF_fz, toF_fz, isBool_bool, toBool_bool, isInt_int, toInt_int, isStr_str, toStr_str, isSl_sl, toSl_sl, List.length_cons, List.length_nil, List.all_cons, List.all_nil, lisFz_fz, ltoFz_fz, beq_self_eq_true, jump_true, ifB_true, ifB_false, isF_pv, isPv_pv, toV_pv, isNil_nilp, isNil_pt, isPt_pt, toAg_ag, cell_ag, isAg_ag, fits_ag, Int.toNat_natCast, Bool.not_true, Bool.not_false, fits_int, fits_bool, fits_str, fits_sl, h, hf]
end
end Go.Ab
end
section
/- What an argument is read as: numbers, truths, texts, arrays of them, structs. -/
namespace Go.Ab
set_option linter.unusedSectionVars false
set_option linter.unusedVariables false
set_option linter.unusedSimpArgs false
theorem choose_list {α β : Type} {f : α → β} {p : α → Prop} : ∀ {l : List β}, (∀ x ∈ l, ∃ a, x = f a ∧ p a) → ∃ m : List α, l = m.map f ∧ ∀ a ∈ m, p a
  | [], _ => ⟨[], rfl, fun _ h => by cases h⟩
  | x :: l, h => by
    obtain ⟨a, rfl, ha⟩ := h x (List.mem_cons_self ..)
    obtain ⟨m, rfl, hm⟩ := choose_list (l := l) fun y hy => h y (List.mem_cons_of_mem _ hy)
    exact ⟨a :: m, rfl, fun b hb => by rcases List.mem_cons.1 hb with rfl | hb; exact ha; exact hm b hb⟩
section
variable {P : Program} {D B : Nat}
theorem wc_int {k : IntKind} {f : FV} (h : WC P D B (.int k) f) : ∃ n, f = .int k n ∧ (Lit.int k n).wf = true := by
  cases h; exact ⟨_, rfl, by assumption⟩
theorem wc_str {f : FV} (h : WC P D B .str f) : ∃ s, f = .str s ∧ s.size ≤ B := by
  cases h; exact ⟨_, rfl, by assumption⟩
theorem wc_strs {ts : Nat} (hfs : flat P D ts = [.str]) (hss : szOf P ts = some (1, false)) {f : FV} (h : WC P D B (.sl ts) f) : ∃ l : List ByteArray, f = .sl (l.map .str) ∧ (∀ s ∈ l, s.size ≤ B) ∧ l.length * P.bytesOf ts ≤ B := by
  cases h with
  | sl _ es hl hb hf h =>
    obtain ⟨m, rfl, hm⟩ := choose_list (f := FV.str) (p := fun s => s.size ≤ B) (l := es) fun x hx => by
      obtain ⟨n, agg, hs, hfit⟩ := hf x hx
      rw [hss] at hs; cases hs
      have hc := (fits_one hfit).2.2
      exact wc_str (h x hx 0 x .str (by rw [hc]; rfl) (by rw [hfs]; rfl))
    exact ⟨m, rfl, hm, by simpa using hb⟩
theorem int_of {t : Nat} {k : IntKind} (hft : flat P D t = [.int k]) (hst : szOf P t = some (1, false)) {f : FV} (h : WV P D B t f) : ∃ a : Int, f = .int k a ∧ (Lit.int k a).wf = true := by
  obtain ⟨⟨n, agg, hs, hfit⟩, H⟩ := h
  rw [hst] at hs; cases hs
  have hc := (fits_one hfit).2.2
  exact wc_int (H 0 f (.int k) (by rw [hc]; rfl) (by rw [hft]; rfl))
end
end Go.Ab
end
section
/- Nodes as arguments. -/
namespace Go.Ab
set_option linter.unusedVariables false
set_option linter.unusedSimpArgs false
set_option linter.unusedSectionVars false
theorem len8 {α : Type} {l : List α} (h : l.length = 8) : ∃ a b c d e f g i, l = [a, b, c, d, e, f, g, i] := by
  match l, h with
  | [a, b, c, d, e, f, g, i], _ => exact ⟨a, b, c, d, e, f, g, i, rfl⟩
section
variable {P : Program} {D B : Nat} {t ts : Nat} (hB : B ≤ 134217728) (hft : flat P D t = [.int .i64, .int .i64, .int .i64, .int .i64, .int .i64, .str, .sl t, .sl ts]) (hfs : flat P D ts = [.str]) (hst : szOf P t = some (8, true)) (hss : szOf P ts = some (1, false)) (hb : P.bytesOf t = 104) (hbs : P.bytesOf ts = 16)
include hB hft hfs hst hss hb hbs
theorem nd_eight {a b c d e s f g : FV} (h0 : WC P D B (.int .i64) a) (h1 : WC P D B (.int .i64) b) (h2 : WC P D B (.int .i64) c) (h3 : WC P D B (.int .i64) d) (h4 : WC P D B (.int .i64) e) (h5 : WC P D B .str s) (h6 : ∃ l : List ND, f = .sl (l.map ND.enc) ∧ (∀ v ∈ l, v.Sm) ∧ l.length * 104 ≤ B) (h7 : WC P D B (.sl ts) g) :
    ∃ v : ND, FV.ag [a, b, c, d, e, s, f, g] = v.enc ∧ v.Sm := by
  obtain ⟨a, rfl, _⟩ := wc_int h0
  obtain ⟨b, rfl, _⟩ := wc_int h1
  obtain ⟨c, rfl, _⟩ := wc_int h2
  obtain ⟨d, rfl, _⟩ := wc_int h3
  obtain ⟨e, rfl, _⟩ := wc_int h4
  obtain ⟨tt, rfl, wt⟩ := wc_str h5
  obtain ⟨l, rfl, hl, hb'⟩ := h6
  obtain ⟨m, rfl, hm, hbm⟩ := wc_strs hfs hss h7
  rw [hbs] at hbm
  exact ⟨.mk a b c d e tt l m, (ND.enc_mk ..).symm, .mk (by omega) (by omega) (by omega) (fun s h => by have := hm s h; omega) hl⟩
theorem nds_of {c : CT} {f : FV} (h : WC P D B c f) : c = .sl t → ∃ l : List ND, f = .sl (l.map ND.enc) ∧ (∀ v ∈ l, v.Sm) ∧ l.length * 104 ≤ B := by
  induction h with
  | int k n h => intro e; cases e
  | bool b => intro e; cases e
  | str s h => intro e; cases e
  | sl e es hl hb' hf h ih =>
    intro he
    cases he
    obtain ⟨m, rfl, hm⟩ := choose_list (f := ND.enc) (p := ND.Sm) (l := es) fun x hx => by
      obtain ⟨n, agg, hs, hfit⟩ := hf x hx
      rw [hst] at hs; cases hs
      obtain ⟨cs, rfl, hcs⟩ := fits_agg hfit
      obtain ⟨c0, c1, c2, c3, c4, c5, c6, c7, rfl⟩ := len8 hcs
      have H := fun j y c => h _ hx j y c
      have I := fun j y c => ih _ hx j y c
      simp only [FV.cells, hft] at H I
      exact nd_eight hB hft hfs hst hss hb hbs (H 0 c0 _ rfl rfl) (H 1 c1 _ rfl rfl) (H 2 c2 _ rfl rfl) (H 3 c3 _ rfl rfl) (H 4 c4 _ rfl rfl) (H 5 c5 _ rfl rfl) (I 6 c6 _ rfl rfl rfl) (H 7 c7 _ rfl rfl)
    exact ⟨m, rfl, hm, by rw [hb] at hb'; simpa using hb'⟩
theorem nd_of {f : FV} (h : WV P D B t f) : ∃ v : ND, f = v.enc ∧ v.Sm := by
  obtain ⟨⟨n, agg, hs, hfit⟩, H⟩ := h
  rw [hst] at hs; cases hs
  obtain ⟨cs, rfl, hcs⟩ := fits_agg hfit
  obtain ⟨c0, c1, c2, c3, c4, c5, c6, c7, rfl⟩ := len8 hcs
  simp only [FV.cells, hft] at H
  exact nd_eight hB hft hfs hst hss hb hbs (H 0 c0 _ rfl rfl) (H 1 c1 _ rfl rfl) (H 2 c2 _ rfl rfl) (H 3 c3 _ rfl rfl) (H 4 c4 _ rfl rfl) (H 5 c5 _ rfl rfl) (nds_of hB hft hfs hst hss hb hbs (H 6 c6 _ rfl rfl) rfl) (H 7 c7 _ rfl rfl)
end
end Go.Ab
end
section
/- What show.Text answers; the law's fixed answer; a light node. -/
namespace Go.Ab
set_option linter.unusedVariables false
set_option linter.unusedSimpArgs false
/-- A lattice's facts. -/
structure LatN (e : FV) (t9 : List FV) (nm : List ByteArray) (L : Lt) : Prop where
  lat : IsLat e L
  tab : IsTab t9 L
  n : L.n = nm.length
  ok : NmOk nm
  inj : ∀ i j : Nat, i < nm.length → j < nm.length → nm.getD i ⟨#[]⟩ = nm.getD j ⟨#[]⟩ → i = j
  text : ∀ j : Nat, j < L.n → Rt0 N_level_Lattice_Text [.fz (.pt 195 true e 0), .fz (.int .i64 j)] = some ([.fz (.str (nm.getD j ⟨#[]⟩))], [])
theorem latN_of {P : Pol} (hP : P.ok = true) (hN : nmsB P.names = true) : LatN (latR P.names P.g) (tabL P.names.length (rowOf P.names.length P.pairs) P.names.length) P.names (ltR P.names.length P.g) := by
  unfold nmsB at hN
  rw [Bool.and_eq_true] at hN
  refine ⟨Pol.lat hP, Pol.tab hP, rfl, ?_, fun i j hi hj e => ?_, fun j hj => ?_⟩
  · intro s hs
    have := List.all_eq_true.1 hN.1 s hs
    simpa using this
  · have h1 := List.all_eq_true.1 hN.2 i (List.mem_range.2 hi)
    have h2 := List.all_eq_true.1 h1 j (List.mem_range.2 hj)
    rw [e] at h2
    simpa using h2
  · have h := lat_Text (Pol.nice hP) j
    have hj' : j < P.names.length := hj
    rw [if_pos ⟨by omega, by omega⟩, Int.toNat_natCast] at h
    exact h
theorem of12_ok (k : Int) : ∃ e t9 nm L, LatN e t9 nm L ∧ Rt N_law12_of [.fz (.int .i64 k)] = some ([.fz (.pt 195 true e 0), .fz (.sl t9), .fz (.sl (nm.map .str))], []) := by
  obtain ⟨P, hP, hN, h⟩ := of_ok k
  exact ⟨_, _, _, _, latN_of hP hN, lift h⟩
/-- What is shown at a level. -/
def shown (nm : List ByteArray) (L : Lt) (a : Int) (v : ND) : List UInt8 := shT nm L.bot (und L a L.bot v)
section
variable {e : FV} {t9 : List FV} {nm : List ByteArray} {L : Lt} (N : LatN e t9 nm L)
include N
theorem shown_len {v : ND} (hv : v.Sm) (hm : mayB L v = true) (hc : v.cnt ≤ 10000) (a : Int) : (shown nm L a v).length ≤ 50000000000000 := by
  have hT := tok_of N.ok N.lat N.n N.text (most := 0) (by omega) (by omega) hv hm
  have hU := tok_und N.ok N.lat N.n N.text (most := 0) (by omega) (by omega) a hv hT L.bot
  have := sh_len N.ok (und_sm (L := L) (a := a) hv L.bot) hU L.bot
  have := und_cnt L a v L.bot
  unfold shown
  omega
theorem shown_pos {v : ND} (hv : v.Sm) (hm : mayB L v = true) (a : Int) : 1 ≤ (shown nm L a v).length := by
  have hT := tok_of N.ok N.lat N.n N.text (most := 0) (by omega) (by omega) hv hm
  exact sh_pos (tok_und N.ok N.lat N.n N.text (most := 0) (by omega) (by omega) a hv hT L.bot) L.bot
theorem show_ok {v : ND} (hv : v.Sm) (hm : mayB L v = true) (hc : v.cnt ≤ 10000) (a most : Int) (hm0 : -9223372036854775808 ≤ most) (hm1 : most ≤ 9223372036854775807) :
    Rt N_show_Text [.fz (.pt 195 true e 0), .fz v.enc, .fz (.int .i64 a), .fz (.int .i64 most)] = some (if ((shown nm L a v).length : Int) ≤ most then ([.fz (.str (qB (shown nm L a v))), .fz (.bool true)], []) else ([.fz (.str ⟨#[]⟩), .fz (.bool false)], [])) := by
  have hl := shown_len N hv hm hc a
  have hp := shown_pos N hv hm a
  obtain ⟨st', h1, h2⟩ := node_show N.ok N.lat N.n N.text hm0 hm1 a hv hm 100000 (by omega) L.bot ([], false) 0 (fun _ => ⟨.inl rfl, by simp only [List.length_nil]; unfold shown at hl; omega⟩)
  have hw := h2.wr (ne_of_len hp)
  have hb := qInt_of (f := 16) (fs := [.pt 195 true e 0]) (lift01 (lat_Bottom N.lat))
  have hnode : isNode v.enc = true := by
    obtain ⟨b1, b2, b3, b4, b5, b6, b7, b8⟩ := v
    rw [ND.enc_mk]; rfl
  refine rt_prim (af := A_show) (p := showP) rfl rfl ?_
  unfold showP
  simp only [showS]
  rw [if_neg (by rw [hnode]; simp [FV.isPt]), hb, Option.bind_some, h1, Option.bind_some]
  by_cases hf : ((shown nm L a v).length : Int) ≤ most
  · have := hw.fits rfl (by simp only [List.length_nil]; unfold shown at hf; omega)
    subst this
    rw [if_neg (by simp), if_pos hf, List.nil_append]
    rfl
  · have := hw.over rfl (by simp only [List.length_nil]; unfold shown at hf; omega)
    rw [if_pos this, if_neg hf]
theorem rshow_ok {v : ND} (hv : v.Sm) (hm : mayB L v = true) (hc : v.cnt ≤ 10000) (a : Int) : Rt N_ref12_Text [.fz (.sl t9), .fz (.sl (nm.map .str)), .fz v.enc, .fz (.int .i64 a)] = some ([.fz (.str (qB (shown nm L a v)))], []) := by
  have hT := tok_of N.ok N.lat N.n N.text (most := 0) (by omega) (by omega) hv hm
  have hU := tok_und N.ok N.lat N.n N.text (most := 0) (by omega) (by omega) a hv hT L.bot
  have hcu := und_cnt L a v L.bot
  have hlab : labB L v = true := by
    simp only [mayB, Bool.and_eq_true] at hm
    exact hm.1
  have h1 := erase_ok N.tab N.lat.ok a hv hlab
  have h2 := bottom9_ok N.tab N.lat.ok
  have h3 := rtext12 N.ok (und_sm (L := L) (a := a) hv L.bot) hU (by omega) L.bot
  refine lift ?_
  obtain ⟨x, d, k, c, s, t, is, ks⟩ := v
  have hE := E_ref12_Text Rt0 0 true t9 (nm.map .str) x d k c s t (is.map ND.enc) (ks.map .str) a
  rw [← ND.enc_mk] at hE
  refine rt_call0 A_ref12_Text rfl rfl 0 (hE.trans ?_)
  simp only [h1, h2, h3, onR_some, onL_some, List.isEmpty_nil, allF_cons, allF_nil, Bool.and_true, Bool.true_and, when_true', List.getD_cons_zero, List.getD_cons_succ, isF_fz, toF_fz, isBool_bool, toBool_bool, isInt_int, toInt_int, isStr_str, toStr_str, isSl_sl, toSl_sl, List.length_cons, List.length_nil, List.all_cons, List.all_nil, lisFz_fz, ltoFz_fz, beq_self_eq_true, jump_true, ifB_true, ifB_false, isF_pv, isPv_pv, toV_pv, isNil_nilp, isNil_pt, isPt_pt, toAg_ag, cell_ag, isAg_ag, fits_ag, Int.toNat_natCast, Bool.not_true, Bool.not_false, fits_int, fits_bool, fits_str, fits_sl]
  rfl
theorem light1_ok {v : ND} (hv : v.Sm) : ∃ b : Bool, Rt N_law12_light [.fz (.sl t9), .fz v.enc] = some ([.fz (.bool b)], []) ∧ (b = true → v.cnt ≤ 200 ∧ mayB L v = true) := by
  obtain ⟨b1, h1, c1⟩ := nlight_ok hv 200 (by omega) (by omega)
  have i1 := nis9_ok N.tab N.lat.ok hv
  have e9 : (labB L v && (rightB L v && shapeB (strip v))) = mayB L v := rfl
  rw [e9] at i1
  obtain ⟨a, d, k, c, s, t, is, ks⟩ := v
  have hE := E_law12_light Rt0 0 true t9 a d k c s t (is.map ND.enc) (ks.map .str)
  rw [← ND.enc_mk, h1, i1] at hE
  cases b1 with
  | false => exact ⟨false, lift (rt_call0 A_law12_light rfl rfl 0 (hE.trans (by simp only [onR_some, onL_some, List.isEmpty_nil, allF_cons, allF_nil, Bool.and_true, Bool.true_and, when_true', List.getD_cons_zero, List.getD_cons_succ, isF_fz, toF_fz, isBool_bool, toBool_bool, isInt_int, toInt_int, isStr_str, toStr_str, isSl_sl, toSl_sl, List.length_cons, List.length_nil, List.all_cons, List.all_nil, lisFz_fz, ltoFz_fz, beq_self_eq_true, jump_true, ifB_true, ifB_false, isF_pv, isPv_pv, toV_pv, isNil_nilp, isNil_pt, isPt_pt, toAg_ag, cell_ag, isAg_ag, fits_ag, Int.toNat_natCast, Bool.not_true, Bool.not_false, fits_int, fits_bool, fits_str, fits_sl]))), fun h => by cases h⟩
  | true =>
    refine ⟨mayB L (ND.mk a d k c s t is ks), lift (rt_call0 A_law12_light rfl rfl 0 (hE.trans (by simp only [onR_some, onL_some, List.isEmpty_nil, allF_cons, allF_nil, Bool.and_true, Bool.true_and, when_true', List.getD_cons_zero, List.getD_cons_succ, isF_fz, toF_fz, isBool_bool, toBool_bool, isInt_int, toInt_int, isStr_str, toStr_str, isSl_sl, toSl_sl, List.length_cons, List.length_nil, List.all_cons, List.all_nil, lisFz_fz, ltoFz_fz, beq_self_eq_true, jump_true, ifB_true, ifB_false, isF_pv, isPv_pv, toV_pv, isNil_nilp, isNil_pt, isPt_pt, toAg_ag, cell_ag, isAg_ag, fits_ag, Int.toNat_natCast, Bool.not_true, Bool.not_false, fits_int, fits_bool, fits_str, fits_sl]))), fun h => ?_⟩
    have := c1 rfl
    exact ⟨by omega, h⟩
end
theorem lives12_ok : Rt N_law12_lives [] = some ([.fz (.bool true)], []) := by
  have h0 := lift (Pol.new pol0_ok)
  have hs : Rt N_ref01_Sort [.fz (.int .i64 0)] = some ([.fz pol0.e], []) := lift (rt_call0 A_ref01_Sort rfl rfl 0 (by rw [E_ref01_Sort]; rfl))
  have N := latN_of pol0_ok (by decide +kernel)
  let v : ND := .mk 0 1 5 0 0 ⟨#[]⟩ [.mk 0 0 3 1 0 ⟨#[]⟩ [] [], .mk 1 1 3 2 0 ⟨#[]⟩ [] []] []
  have hv : v.Sm := by
    refine .mk (by decide) (by decide) (by decide) (fun s h => by cases h) (fun y hy => ?_)
    simp only [List.mem_cons, List.not_mem_nil, or_false] at hy
    rcases hy with rfl | rfl <;> exact .mk (by decide) (by decide) (by decide) (fun s h => by cases h) (fun y hy => by cases hy)
  have hm : mayB (ltR pol0.names.length pol0.g) v = true := by decide +kernel
  have s0 := show_ok N hv hm (by decide +kernel) 0 99 (by omega) (by omega)
  have s1 := show_ok N hv hm (by decide +kernel) 1 99 (by omega) (by omega)
  have t0 : shown pol0.names (ltR pol0.names.length pol0.g) 0 v = [91, 49, 44, 123, 34, 35, 34, 58, 110, 117, 108, 108, 125, 93] := by decide +kernel
  have t1 : shown pol0.names (ltR pol0.names.length pol0.g) 1 v = [91, 49, 44, 123, 34, 35, 34, 58, 34, 104, 105, 103, 104, 34, 44, 34, 61, 34, 58, 50, 125, 93] := by decide +kernel
  rw [t0, if_pos (by decide)] at s0
  rw [t1, if_pos (by decide)] at s1
  have ev : FV.ag [.int .i64 0, .int .i64 1, .int .i64 5, .int .i64 0, .int .i64 0, .str ⟨#[]⟩, .sl [.ag [.int .i64 0, .int .i64 0, .int .i64 3, .int .i64 1, .int .i64 0, .str ⟨#[]⟩, .sl [], .sl []], .ag [.int .i64 1, .int .i64 1, .int .i64 3, .int .i64 2, .int .i64 0, .str ⟨#[]⟩, .sl [], .sl []]], .sl []] = v.enc := rfl
  refine rt_call A_law12_lives rfl rfl 0 ((E_law12_lives Rt 0 true).trans ?_)
  simp only [hs, h0, ev, s0, s1, onR_some, onL_some, List.isEmpty_nil, allF_cons, allF_nil, Bool.and_true, Bool.true_and, when_true', List.getD_cons_zero, List.getD_cons_succ, isF_fz, toF_fz, isBool_bool, toBool_bool, isInt_int, toInt_int, isStr_str, toStr_str, isSl_sl, toSl_sl, List.length_cons, List.length_nil, List.all_cons, List.all_nil, lisFz_fz, ltoFz_fz, beq_self_eq_true, jump_true, ifB_true, ifB_false, isF_pv, isPv_pv, toV_pv, isNil_nilp, isNil_pt, isPt_pt, toAg_ag, cell_ag, isAg_ag, fits_ag, Int.toNat_natCast, Bool.not_true, Bool.not_false, fits_int, fits_bool, fits_str, fits_sl, bytes_beq]
  rw [show (⟨#[91, 49, 44, 123, 34, 35, 34, 58, 110, 117, 108, 108, 125, 93]⟩ : ByteArray) = qB [91, 49, 44, 123, 34, 35, 34, 58, 110, 117, 108, 108, 125, 93] from rfl, show (⟨#[91, 49, 44, 123, 34, 35, 34, 58, 34, 104, 105, 103, 104, 34, 44, 34, 61, 34, 58, 50, 125, 93]⟩ : ByteArray) = qB [91, 49, 44, 123, 34, 35, 34, 58, 34, 104, 105, 103, 104, 34, 44, 34, 61, 34, 58, 50, 125, 93] from rfl, decide_eq_true rfl, decide_eq_true rfl, ifB_true]
end Go.Ab
end
section
/- ShowAll: the plain law. -/
namespace Go.Ab
open Go.Proofs
set_option linter.unusedVariables false
set_option linter.unusedSimpArgs false
theorem pure_ShowAll (f0 f1 f2 : FV) (h0 : WV Try.prog 40 134217728 3 f0) (h1 : WV Try.prog 40 134217728 27 f1) (h2 : WV Try.prog 40 134217728 3 f2) : Rt N_law12_ShowAll [.fz f0, .fz f1, .fz f2] = some ([.fz (.bool true)], []) := by
  obtain ⟨kk, rfl, _⟩ := int_of (k := .i64) (by kernel_rfl) (by kernel_rfl) h0
  obtain ⟨aa, rfl, _⟩ := int_of (k := .i64) (by kernel_rfl) (by kernel_rfl) h2
  obtain ⟨v, rfl, hv⟩ := nd_of (t := 27) (ts := 9) (Nat.le_refl _) (by kernel_rfl) (by kernel_rfl) (by kernel_rfl) (by kernel_rfl) (by kernel_rfl) (by kernel_rfl) h1
  obtain ⟨e, t9, nm, L, N, hof⟩ := of12_ok kk
  have hl := lives12_ok
  obtain ⟨b, hb, hlt⟩ := light1_ok N hv
  have sh := fun m c most h1 h2 => show_ok N hv m c aa most h1 h2
  have rs := fun m c => rshow_ok N hv m c aa
  have sp := fun m => shown_pos N hv m aa
  obtain ⟨a, d, k, c, s, t, is, ks⟩ := v
  have hE := E_law12_ShowAll Rt 0 true kk a d k c s t (is.map ND.enc) (ks.map .str) aa
  simp only [← ND.enc_mk] at hE
  refine rt_call A_law12_ShowAll rfl rfl 0 (hE.trans ?_)
  simp only [hof, onR_some, onL_some, List.isEmpty_nil, allF_cons, allF_nil, Bool.and_true, Bool.true_and, when_true', List.getD_cons_zero, List.getD_cons_succ, isF_fz, toF_fz, isBool_bool, toBool_bool, isInt_int, toInt_int, isStr_str, toStr_str, isSl_sl, toSl_sl, List.length_cons, List.length_nil, List.all_cons, List.all_nil, lisFz_fz, ltoFz_fz, beq_self_eq_true, jump_true, ifB_true, ifB_false, isF_pv, isPv_pv, toV_pv, isNil_nilp, isNil_pt, isPt_pt, toAg_ag, cell_ag, isAg_ag, fits_ag, Int.toNat_natCast, Bool.not_true, Bool.not_false, fits_int, fits_bool, fits_str, fits_sl, hb]
  cases b with
  | false => simp only [onR_some, onL_some, List.isEmpty_nil, allF_cons, allF_nil, Bool.and_true, Bool.true_and, when_true', List.getD_cons_zero, List.getD_cons_succ, isF_fz, toF_fz, isBool_bool, toBool_bool, isInt_int, toInt_int, isStr_str, toStr_str, isSl_sl, toSl_sl, List.length_cons, List.length_nil, List.all_cons, List.all_nil, lisFz_fz, ltoFz_fz, beq_self_eq_true, jump_true, ifB_true, ifB_false, isF_pv, isPv_pv, toV_pv, isNil_nilp, isNil_pt, isPt_pt, toAg_ag, cell_ag, isAg_ag, fits_ag, Int.toNat_natCast, Bool.not_true, Bool.not_false, fits_int, fits_bool, fits_str, fits_sl, hl]
  | true =>
    obtain ⟨c1, m1⟩ := hlt rfl
    replace sh := sh m1 (by omega)
    replace rs := rs m1 (by omega)
    replace sp := sp m1
    generalize hT : shown nm L aa (ND.mk a d k c s t is ks) = T at sh rs sp
    have hz : (((qB T).size : Nat) : Int) = (T.length : Int) := rfl
    simp only [onR_some, onL_some, List.isEmpty_nil, allF_cons, allF_nil, Bool.and_true, Bool.true_and, when_true', List.getD_cons_zero, List.getD_cons_succ, isF_fz, toF_fz, isBool_bool, toBool_bool, isInt_int, toInt_int, isStr_str, toStr_str, isSl_sl, toSl_sl, List.length_cons, List.length_nil, List.all_cons, List.all_nil, lisFz_fz, ltoFz_fz, beq_self_eq_true, jump_true, ifB_true, ifB_false, isF_pv, isPv_pv, toV_pv, isNil_nilp, isNil_pt, isPt_pt, toAg_ag, cell_ag, isAg_ag, fits_ag, Int.toNat_natCast, Bool.not_true, Bool.not_false, fits_int, fits_bool, fits_str, fits_sl, rs, hz]
    by_cases hg : (T.length : Int) > 900000
    · simp only [decide_eq_true hg, ifB_true, onR_some, onL_some, List.isEmpty_nil, allF_cons, allF_nil, Bool.and_true, Bool.true_and, when_true', List.getD_cons_zero, List.getD_cons_succ, isF_fz, toF_fz, isBool_bool, toBool_bool, isInt_int, toInt_int, isStr_str, toStr_str, isSl_sl, toSl_sl, List.length_cons, List.length_nil, List.all_cons, List.all_nil, lisFz_fz, ltoFz_fz, beq_self_eq_true, jump_true, ifB_true, ifB_false, isF_pv, isPv_pv, toV_pv, isNil_nilp, isNil_pt, isPt_pt, toAg_ag, cell_ag, isAg_ag, fits_ag, Int.toNat_natCast, Bool.not_true, Bool.not_false, fits_int, fits_bool, fits_str, fits_sl, hl]
    · have s1 := sh 1000000 (by omega) (by omega)
      have s2 := sh T.length (by omega) (by omega)
      have s3 := sh ((T.length : Int) - 1) (by omega) (by omega)
      rw [if_pos (by omega)] at s1
      rw [if_pos (by omega)] at s2
      rw [if_neg (by omega)] at s3
      have hw : IntKind.wrap .i64 ((T.length : Int) - 1) = (T.length : Int) - 1 := wrap64 (by omega) (by omega)
      simp only [decide_eq_false hg, ifB_false, jump_true]
      rw [J_law12_ShowAll_1_0_eq]
      simp only [← ND.enc_mk, onR_some, onL_some, List.isEmpty_nil, allF_cons, allF_nil, Bool.and_true, Bool.true_and, when_true', List.getD_cons_zero, List.getD_cons_succ, isF_fz, toF_fz, isBool_bool, toBool_bool, isInt_int, toInt_int, isStr_str, toStr_str, isSl_sl, toSl_sl, List.length_cons, List.length_nil, List.all_cons, List.all_nil, lisFz_fz, ltoFz_fz, beq_self_eq_true, jump_true, ifB_true, ifB_false, isF_pv, isPv_pv, toV_pv, isNil_nilp, isNil_pt, isPt_pt, toAg_ag, cell_ag, isAg_ag, fits_ag, Int.toNat_natCast, Bool.not_true, Bool.not_false, fits_int, fits_bool, fits_str, fits_sl, s1, s2, s3, hz, hw, bytes_beq, decide_true, hl]
end Go.Ab
end
section
/- A row under a condition, with the reach and the shape of the library's variables handed to the contract. -/
namespace Go.Ab
open Go
section
variable {H : Type} {enc : TypeId × Value → H}
theorem cond_shaped {a : Assume} {C : Checked} {os : Os} {f : FuncId} {fn : Func} {s : OpenSpec} {k : (H : Type) → List (DataW H) → Bool} (hk : s.cond = some k) {F : Stop.Interp} {conds : List PathCond} {apart fresh handsOn again : Bool}
    (own : ownKnob C.prog.godebug = none) (started : os.Started) (noInit : C.prog.inits.idxOf? f = none) (hfn : C.prog.funcs[f]? = some fn)
    (witness : ∃ (w : World) (tape : Tape) (i : Input), w.os = os ∧ (w.forCall tape i).Shaped C.prog ∧ i.vars = [] ∧ Input.okWide C.prog (w.forCall tape i) .any w.heap.size f i ∧
      s.pre6 enc C.prog fn conds apart (w.forCall tape i).memory i.args ∧ a.holds C.prog (lone (Frame.enter C.prog f i.args .normal) [] (w.forCall tape i)))
    (contract : ∀ (W : World) (base : Nat) (args : Array Value) (ds gs : List (DataW H)) (before : List MemPlace),
      (∀ (j : Nat) t v, fn.params[j]? = some t → args[j]? = some v → Value.okWide C.prog W .any base t v) →
      DataW.Whole enc C.prog fn.params.toList s.vars apart W args.toList ds gs before →
      conds.all (PathCond.test C.prog ⟨fn.params.toList, ds, s.bare.plain.varTypes C.prog, gs⟩) = true → k H (ds ++ gs) = true →
      (DataW.weightsEach C.prog (fn.params.toList ++ s.bare.plain.varTypes C.prog) (ds ++ gs)).all (· ≤ reachBytes) = true →
      W.ShapedOpen C.prog →
      a.holds C.prog (lone (Frame.enter C.prog f args .normal) [] W) →
      Calls C.prog f args W fun e W' => ∃ v, e = .returned v ∧ (s.at F).post enc C.prog fn apart fresh handsOn again W args v W') :
    ReturnsInHanded a C os f .any (s.pre6 enc C.prog fn conds apart) ((s.at F).post enc C.prog fn apart fresh handsOn again) := by
  refine returnsInHanded_of_calls own started noInit witness ?_
  intro w tape i _ hsh _ hok hpre hholds
  obtain ⟨_, _, _, fn', hfn', _, _, _, _, hval⟩ := hok
  have e : fn' = fn := Option.some.inj (hfn'.symm.trans hfn)
  subst e
  obtain ⟨ds, gs, before, hw, hc, hkk⟩ := (OpenSpec.pre_some hk conds apart _ _).1 hpre.1
  have hw' := DataW.Whole.of_heap (w' := w.forCall tape i) (by rfl) hw
  refine (contract (w.forCall tape i) w.heap.size i.args ds gs before hval hw' hc hkk (hpre.2.weights hw) hsh hholds).mono fun e W' ⟨v, he, hp⟩ => ?_
  subst he
  exact ChangeSpec.post_blind hp
end
end Go.Ab
end
section
/- What the bound on all that is read gives: each text, and each list, is small. -/
namespace Go.Proofs.Ytkolniefdijlhaa
open Go Rows
def smallT (P : Program) (M : Nat) (ts : List Nat) : Bool := ts.all fun t => match P.underlying t with
  | some (.slice e) => ts.elem e && Nat.ble (P.bytesOf e) M
  | some (.struct fs) => fs.toList.all fun f => ts.elem f.type
  | some (.array _ e) => ts.elem e
  | some (.pointer e) => ts.elem e
  | some (.map _ _) => false
  | _ => true
theorem bulk_pos {H : Type} (d : DataW H) : 1 ≤ uptoBulk d := by
  cases d with
  | lit l => cases l <;> simp [uptoBulk]
  | _ => simp [uptoBulk]
theorem bulk_length {H : Type} : ∀ l : List (DataW H), l.length ≤ uptoBulkAll l
  | [] => by simp [uptoBulkAll]
  | d :: r => by
    have := bulk_pos d
    have := bulk_length r
    simp only [uptoBulkAll, List.length_cons]; omega
section
variable {H : Type} {P : Program} {M : Nat} {ts : List Nat}
theorem small_of (hT : smallT P M ts = true) {t : Nat} (ht : ts.elem t = true) {ds : TypeDesc} (hu : P.underlying t = some ds) :
    (match ds with
      | .slice e => ts.elem e = true ∧ P.bytesOf e ≤ M
      | .struct fs => ∀ f ∈ fs.toList, ts.elem f.type = true
      | .array _ e => ts.elem e = true
      | .pointer e => ts.elem e = true
      | .map _ _ => False
      | _ => True) := by
  have h := List.all_eq_true.1 hT t (by simpa using ht)
  rw [hu] at h
  cases ds <;> simp only [] <;> simp only [Bool.and_eq_true, Bool.false_eq_true] at h <;> first | trivial | exact h | skip
  · exact ⟨h.1, Nat.le_of_ble_eq_true h.2⟩
  · intro f hf; exact List.all_eq_true.1 h f hf
theorem mul_up {a b n M : Nat} (h : n ≤ a * M) (hab : a ≤ b) : n ≤ b * M := Nat.le_trans h (Nat.mul_le_mul_right M hab)
mutual
theorem weights_small (hM : 1 ≤ M) (hT : smallT P M ts = true) : ∀ (d : DataW H) (t : TypeId), ts.elem t = true → ∀ n ∈ d.weights P t, n ≤ uptoBulk d * M
  | .lit l, t, ht, n, hn => by
    cases l with
    | string bytes =>
      simp only [DataW.weights, List.mem_singleton] at hn
      subst hn
      simp only [uptoBulk]
      exact Nat.le_trans (Nat.le_succ _) (Nat.le_mul_of_pos_right _ hM)
    | _ => simp [DataW.weights] at hn
  | .nil, t, ht, n, hn => by simp [DataW.weights] at hn
  | .ptr d, t, ht, n, hn => by
    simp only [DataW.weights] at hn
    split at hn
    · rename_i e hu
      exact mul_up (weights_small hM hT d e (small_of hT ht hu) n hn) (by simp [uptoBulk])
    · cases hn
  | .slice elems spare, t, ht, n, hn => by
    simp only [DataW.weights] at hn
    split at hn
    · rename_i e hu
      obtain ⟨h1, h2⟩ := small_of hT ht hu
      rcases List.mem_cons.1 hn with rfl | hn
      · have a := bulk_length elems
        have b := bulk_length spare
        refine Nat.le_trans (Nat.mul_le_mul_left _ h2) (Nat.mul_le_mul_right M ?_)
        simp only [uptoBulk]; omega
      · rcases List.mem_append.1 hn with hn | hn
        · exact mul_up (weightsAll_small hM hT elems e h1 n hn) (by simp only [uptoBulk]; omega)
        · exact mul_up (weightsAll_small hM hT spare e h1 n hn) (by simp only [uptoBulk]; omega)
    · cases hn
  | .agg parts, t, ht, n, hn => by
    simp only [DataW.weights] at hn
    split at hn
    · rename_i fs hu
      have h1 := small_of hT ht hu
      exact mul_up (weightsEach_small hM hT parts (fs.toList.map (·.type)) (fun u hu => by obtain ⟨f, hf, rfl⟩ := List.mem_map.1 hu; exact h1 f hf) n hn) (by simp only [uptoBulk]; omega)
    · rename_i k e hu
      exact mul_up (weightsAll_small hM hT parts e (small_of hT ht hu) n hn) (by simp only [uptoBulk]; omega)
    · cases hn
  | .iface _ _, t, ht, n, hn => by simp [DataW.weights] at hn
  | .map entries, t, ht, n, hn => by
    simp only [DataW.weights] at hn
    split at hn
    · rename_i k e hu
      exact (small_of hT ht hu).elim
    · cases hn
  | .held _, t, ht, n, hn => by simp [DataW.weights] at hn
theorem weightsAll_small (hM : 1 ≤ M) (hT : smallT P M ts = true) : ∀ (l : List (DataW H)) (e : TypeId), ts.elem e = true → ∀ n ∈ DataW.weightsAll P e l, n ≤ uptoBulkAll l * M
  | [], e, he, n, hn => by simp [DataW.weightsAll] at hn
  | d :: r, e, he, n, hn => by
    simp only [DataW.weightsAll] at hn
    rcases List.mem_append.1 hn with hn | hn
    · exact mul_up (weights_small hM hT d e he n hn) (by simp only [uptoBulkAll]; omega)
    · exact mul_up (weightsAll_small hM hT r e he n hn) (by simp only [uptoBulkAll]; omega)
theorem weightsEach_small (hM : 1 ≤ M) (hT : smallT P M ts = true) : ∀ (l : List (DataW H)) (us : List TypeId), (∀ u ∈ us, ts.elem u = true) → ∀ n ∈ DataW.weightsEach P us l, n ≤ uptoBulkAll l * M
  | [], us, he, n, hn => by cases us <;> simp [DataW.weightsEach] at hn
  | d :: r, [], he, n, hn => by simp [DataW.weightsEach] at hn
  | d :: r, u :: us, he, n, hn => by
    simp only [DataW.weightsEach] at hn
    rcases List.mem_append.1 hn with hn | hn
    · exact mul_up (weights_small hM hT d u (he u (List.mem_cons_self ..)) n hn) (by simp only [uptoBulkAll]; omega)
    · exact mul_up (weightsEach_small hM hT r us (fun v hv => he v (List.mem_cons_of_mem _ hv)) n hn) (by simp only [uptoBulkAll]; omega)
end
/-- Each weight of what is read is at most so much, where all is of the bulk that the bound lets. -/
theorem weights_upto (hM : 1 ≤ M) (hT : smallT P M ts = true) {l : List (DataW H)} {us : List TypeId} (hu : us.all (ts.elem ·) = true) (hk : uptoSmall H l = true) : ∀ n ∈ DataW.weightsEach P us l, n ≤ 1048576 * M := fun n hn =>
  mul_up (weightsEach_small hM hT l us (fun u h => List.all_eq_true.1 hu u h) n hn) (of_decide_eq_true hk)
end
end Go.Proofs.Ytkolniefdijlhaa
end
section
/- ShowAll: where all that comes in is of bulk at most 1048576, the law returns true, and its arguments read as before. No further condition. -/
namespace Go.Proofs.Ytkolniefdijlhaa.showAll
open Go.ChangeShapes Go.WideShapes Go.ChangeAt Go.RowKit Go.Ab
set_option linter.unusedVariables false
theorem own : ownKnob Try.prog.godebug = none := by kernel_rfl
theorem laidOut : laidOutB Try.prog = true := by kernel_rfl
theorem closedE : closedT Try.prog 40 [27, 9] = true := by kernel_rfl
theorem globs (W : World) (h : W.ShapedOpen Try.prog) : GlobOK Try.prog W (fun b => b < W.heap.size) := fun g hg => by
  have e : Try.prog.globals.findIdx? (·.name == "internal/bytealg.MaxLen") = some 0 := by kernel_rfl
  rw [e] at hg; cases hg
  obtain ⟨m, hm⟩ := cell_of_shapedOpen_int (k := .i64) (zero := #[.int .i64 0]) (t := 3) h (of_decide_eq_true (by kernel_rfl)) (by kernel_rfl) rfl (by kernel_rfl) (by kernel_rfl) Try.underlying3
  refine ⟨?_, m, hm⟩
  rcases Nat.lt_or_ge 0 W.heap.size with hl | hl
  · exact hl
  · simp [World.cell?, Array.getElem?_eq_none hl] at hm
set_option maxRecDepth 100000 in
theorem lifted (os : Os) (started : os.Started) (H : Type) (enc : TypeId × Value → H) (F : Stop.Interp) :
    ReturnsInHanded {} Try.checked os 4 .any ((Rows.OpenSpec.upto Rows.showAllSpec).pre6 enc Try.prog Try.f4 Rows.showAllUptoRow.domain false) (((Rows.OpenSpec.upto Rows.showAllSpec).at F).post enc Try.prog Try.f4 false true false false) := by
  refine Go.Ab.cond_shaped (C := Try.checked) (s := (Rows.OpenSpec.upto Rows.showAllSpec)) (k := Rows.uptoSmall) rfl own started (by kernel_rfl) Try.func4
    (OpenSpec.witness (enc := enc) (C := Try.checked) (s := (Rows.OpenSpec.upto Rows.showAllSpec)) (k := Rows.uptoSmall) rfl false ⟨#[], #[.int .i64 0, .agg #[.int .i64 0, .int .i64 0, .int .i64 0, .int .i64 0, .int .i64 0, .string ByteArray.empty, .slice none 0 0, .slice none 0 0], .int .i64 0], []⟩ 8 (by kernel_rfl) (by kernel_rfl) (by kernel_rfl)
      (x := ([.lit (.int .i64 0), .agg [.lit (.int .i64 0), .lit (.int .i64 0), .lit (.int .i64 0), .agg [.lit (.int .i64 0), .lit (.int .i64 0)], .lit (.string []), .nil, .nil], .lit (.int .i64 0)], [], [])) (by kernel_rfl) rfl (by kernel_rfl)) ?_
  intro W base args ds gs before hval0 hW hcnd hk0 hsz0 hsh _
  have hsz : ∀ n ∈ DataW.weightsEach Try.prog (Try.f4.params.toList ++ Rows.showAllSpec.plain.varTypes Try.prog) (ds ++ gs), n ≤ 134217728 := weights_upto (M := 128) (ts := [3, 27, 23, 9, 24, 25, 2]) (by omega) (by kernel_rfl) (by kernel_rfl) hk0
  have hval : ∀ (j : Nat) t v, Try.f4.params[j]? = some t → args[j]? = some v → Value.okWide Try.prog W .any base t v := hval0
  have hW' := hW
  obtain ⟨p, q, hA0, hV, rfl, hfz, hnd⟩ := hW
  have hA : DataW.TrodAll enc Try.prog W 0 (fun _ => true) true Try.f4.params.toList args.toList ds p := hA0
  rw [Try.params4] at hA hval hsz
  obtain ⟨v0, vs0, d0, ds0, p0, q0, hargs, rfl, rfl, h0, r0⟩ := trodAll_cons hA
  obtain ⟨v1, vs1, d1, ds1, p1, q1, rfl, rfl, rfl, h1, r1⟩ := trodAll_cons r0
  obtain ⟨v2, vs2, d2, ds2, p2, q2, rfl, rfl, rfl, h2, r2⟩ := trodAll_cons r1
  obtain ⟨rfl, rfl, rfl⟩ := trodAll_nil r2
  obtain rfl : args = #[v0, v1, v2] := by cases args; simp_all
  obtain ⟨rfl, rfl⟩ := trodVars_none hV
  have k0 := h0
  have lt0 : ∀ x ∈ p0, x.block < W.heap.size := by obtain ⟨m, hm⟩ := k0; exact DataW.trod_lt m _ _ _ hm
  obtain ⟨f0, R0, V0⟩ := read_value closedE (t := 3) (by kernel_rfl) (hval 0 3 v0 rfl rfl) k0 (fun k hk => hsz k (DataW.weights_mem_each (j := 0) (t := 3) rfl rfl k hk))
  have k1 := h1
  have lt1 : ∀ x ∈ p1, x.block < W.heap.size := by obtain ⟨m, hm⟩ := k1; exact DataW.trod_lt m _ _ _ hm
  obtain ⟨f1, R1, V1⟩ := read_value closedE (t := 27) (by kernel_rfl) (hval 1 27 v1 rfl rfl) k1 (fun k hk => hsz k (DataW.weights_mem_each (j := 1) (t := 27) rfl rfl k hk))
  have k2 := h2
  have lt2 : ∀ x ∈ p2, x.block < W.heap.size := by obtain ⟨m, hm⟩ := k2; exact DataW.trod_lt m _ _ _ hm
  obtain ⟨f2, R2, V2⟩ := read_value closedE (t := 3) (by kernel_rfl) (hval 2 3 v2 rfl rfl) k2 (fun k hk => hsz k (DataW.weights_mem_each (j := 2) (t := 3) rfl rfl k hk))
  clear hA0 hval0 hsz0 hsz hk0
  have hp := pure_ShowAll f0 f1 f2 V0 V1 V2
  obtain ⟨k, hk⟩ := RR_tells.1 hp
  refine (law_calls tab_ok (fs := [f0, f1, f2]) (args := #[v0, v1, v2]) (W := W) hk (globs _ hsh) ⟨R0, R1, R2, trivial⟩).mono fun e W' ⟨he, bel⟩ => ?_
  subst he
  exact ⟨_, rfl, _, _, _, [], _, [], hW', trodAll_mk1 (shut_bool Try.underlying4 _), (trodAll_cons_mk (Below.trod laidOut (by kernel_rfl) (of_decide_eq_true (by kernel_rfl)) k0 bel lt0) (trodAll_cons_mk (Below.trod laidOut (by kernel_rfl) (of_decide_eq_true (by kernel_rfl)) k1 bel lt1) (trodAll_cons_mk (Below.trod laidOut (by kernel_rfl) (of_decide_eq_true (by kernel_rfl)) k2 bel lt2) trodAll_mk0))), rfl, bel.frame _, fun h => by cases h⟩
theorem proved : Rows.ShowAllUptoSaid :=
  OpenClaim.holds_of_cond 4 Try.f4 rfl rfl rfl rfl rfl rfl rfl ⟨rfl, rfl, rfl, rfl, rfl⟩ rfl rfl rfl rfl rfl (by kernel_rfl) Try.func4 (by kernel_rfl)
    (of_decide_eq_true (by kernel_rfl)) (by unfold Func.isWrapper; first | (rw [if_pos (by decide +kernel)]; kernel_rfl) | (rw [if_neg (by decide +kernel)]; exact ⟨rfl, rfl⟩))
    (fun os started H enc _ F => lifted os started H enc F)
#print axioms proved
end Go.Proofs.Ytkolniefdijlhaa.showAll
namespace Go.Proofs.Ytkolniefdijlhaa
/-- The row, under a short name, for the claim. -/
theorem showAll_upto : Rows.ShowAllUptoSaid := showAll.proved
end Go.Proofs.Ytkolniefdijlhaa
end
