/- The row ShowAlike, part 6 of 6: texts written for this work, merged by a program of the session. No condition. -/
import Derived.Deep.CondSized
import Derived.HandedShaped
import Derived.Test.YtkolniefdijlhaaRows
import Derived.WalkKit
import Derived.ProofKit
import Derived.OpenShut
import Derived.ShutString
import Derived.ChangeOld
import Derived.Below
import Derived.SizedLaws
import Derived.Shelf.Vars
import Derived.JoinedCond
import Derived.Test.YtkolniefdijlhaaMShowAlike5
set_option linter.unusedVariables false
set_option linter.unusedSimpArgs false
set_option linter.unusedSectionVars false
section
namespace Go.Ab
structure Wr (most : Int) (t : List UInt8) (st st' : ShS) : Prop where
  full : st.2 = true → st'.2 = true
  fits : st.2 = false → ((st.1.length + t.length : Nat) : Int) ≤ most → st' = (st.1 ++ t, false)
  over : st.2 = false → most < ((st.1.length + t.length : Nat) : Int) → st'.2 = true
def Rdy (most : Int) (n : Nat) (st : ShS) : Prop := st.2 = false → (st.1 = [] ∨ (st.1.length : Int) ≤ most) ∧ st.1.length + n ≤ 100000000000000
theorem Wr.trans {most : Int} {t u : List UInt8} {a b c : ShS} (h : Wr most t a b) (k : Wr most u b c) : Wr most (t ++ u) a c where
 full ha := k.full (h.full ha)
 fits ha hl := by
  rw [List.length_append] at hl
  have h1 := h.fits ha (by omega)
  subst h1
  rw [k.fits rfl (by simp only [List.length_append]; omega), List.append_assoc]
 over ha hl := by
  rw [List.length_append] at hl
  by_cases hm : ((a.1.length + t.length : Nat) : Int) ≤ most
  ·have h1 := h.fits ha hm
   subst h1
   exact k.over rfl (by simp only [List.length_append]; omega)
  ·exact k.full (h.over ha (by omega))
theorem Rdy.after {most : Int} {t : List UInt8} {n : Nat} {a b : ShS} (h : Rdy most (t.length + n) a) (w : Wr most t a b) : Rdy most n b := by
 intro hb
 have ha : a.2 = false := by
  cases hf : a.2 with
  | true => rw [w.full hf] at hb; cases hb
  | false => rfl
 obtain ⟨h1, h2⟩ := h ha
 by_cases hm : ((a.1.length + t.length : Nat) : Int) ≤ most
 ·have h3 := w.fits ha hm
  subst h3
  simp only [List.length_append]
  exact ⟨.inr (by omega), by omega⟩
 ·rw [w.over ha (by omega)] at hb; cases hb
theorem put_wr {most : Int} (hm0 : -9223372036854775808 ≤ most) (hm1 : most ≤ 9223372036854775807) : ∀ (xs : List (List UInt8)) (n : Nat) (st : ShS), xs ≠ [] → (∀ x ∈ xs, x ≠ []) → Rdy most (xs.flatten.length + n) st → ∃ st', putT most (xs.map qB) st = some st' ∧ Wr most xs.flatten st st' := by
  intro xs
  induction xs with
  | nil => intro n st h; exact absurd rfl h
  | cons x r ih =>
    intro n st _ hx hR
    obtain ⟨out, f⟩ := st
    have hx0 : x ≠ [] := hx x (List.mem_cons_self ..)
    have hxl : 0 < x.length := List.length_pos_iff.2 hx0
    rw [List.flatten_cons] at hR
    cases f with
    | true =>
      refine ⟨(out, true), by simp [putT, putS], fun _ => rfl, fun h => Bool.noConfusion h, fun h => Bool.noConfusion h⟩
    | false =>
      obtain ⟨h1, h2⟩ := hR rfl
      simp only [List.length_append] at h1 h2
      have hg : ¬ (most - out.length < -9223372036854775808 ∨ 9223372036854775807 < most - out.length) := by
        rcases h1 with h1 | h1
        · subst h1; simp only [List.length_nil]; omega
        · omega
      by_cases hbig : (x.length : Int) > most - out.length
      · refine ⟨(out, true), ?_, fun h => Bool.noConfusion h, fun _ hl => ?_, fun _ _ => rfl⟩
        · simp only [putT, List.map_cons, putS]
          rw [if_neg (by simp), if_neg hg, if_pos (by rw [qBsz]; exact hbig)]
        · exfalso
          simp only [List.flatten_cons, List.length_append] at hl
          omega
      · have step : putT most ((x :: r).map qB) (out, false) = putT most (r.map qB) (out ++ x, false) := by
          simp only [putT, List.map_cons, putS]
          rw [if_neg (by simp), if_neg hg, if_neg (by rw [qBsz]; exact hbig), if_neg (by rw [qBsz]; omega)]
          rfl
        rw [step]
        have w1 : Wr most x (out, false) (out ++ x, false) := ⟨fun h => Bool.noConfusion h, fun _ _ => rfl, fun _ hl => by exfalso; simp only at hl; omega⟩
        by_cases hr : r = []
        · subst hr
          exact ⟨(out ++ x, false), by simp [putT, putS], by simpa using w1⟩
        · have hR2 : Rdy most (r.flatten.length + n) (out ++ x, false) := fun _ => ⟨.inr (by simp only [List.length_append]; omega), by simp only [List.length_append]; omega⟩
          obtain ⟨st', h3, h4⟩ := ih n (out ++ x, false) hr (fun y hy => hx y (List.mem_cons_of_mem _ hy)) hR2
          exact ⟨st', h3, by rw [List.flatten_cons]; exact w1.trans h4⟩
theorem qInt_of {f : Nat} {fs : List FV} {n : Int} (h : Rt1 f (fs.map .fz) = some ([.fz (.int .i64 n)], [])) : qInt f fs = some n := by unfold qInt q1; rw [h]
theorem qBool_of {f : Nat} {fs : List FV} {n : Bool} (h : Rt1 f (fs.map .fz) = some ([.fz (.bool n)], [])) : qBool f fs = some n := by unfold qBool q1; rw [h]
theorem qStr_of {f : Nat} {fs : List FV} {n : ByteArray} (h : Rt1 f (fs.map .fz) = some ([.fz (.str n)], [])) : qStr f fs = some n := by unfold qStr q1; rw [h]
section
variable {nm : List ByteArray} (hn : NmOk nm) {e : FV} {L : Lt} (I : IsLat e L) (hnl : L.n = nm.length) (hTx : ∀ j : Nat, j < L.n → Rt0 N_level_Lattice_Text [.fz (.pt 195 true e 0), .fz (.int .i64 j)] = some ([.fz (.str (nm.getD j ⟨#[]⟩))], [])) {most : Int} (hm0 : -9223372036854775808 ≤ most) (hm1 : most ≤ 9223372036854775807) (a : Int)
include hn I hnl hTx hm0 hm1
theorem tok_of {v : ND} (hv : v.Sm) : mayB L v = true → TOk nm v := by
  induction hv with
  | @mk x d k c s t is ks hi hk ht hs h ih =>
    intro hm
    have hit := fun y hy => may_item hm (v := y) hy
    have hm2 := hm
    simp only [mayB, labB_mk, strip_mk, shapeB_mk, Bool.and_eq_true, isR, preB] at hm2
    obtain ⟨⟨h1, _⟩, _, ⟨h2, h3⟩, ⟨h4, h5, h6, h7, h8, h9, h10, h11, h12⟩, _⟩ := hm2
    have hx := Lt.is_iff.1 h1
    simp only [List.length_map, Bool.not_eq_true', Bool.and_eq_false_imp, decide_eq_false_iff_not] at h2 h3 h4 h5 h9 h10
    have keys : ∀ (l : List ByteArray) (p : Option ByteArray), keysOk p l = true → ∀ s ∈ l, textB s = true := by
      intro l
      induction l with
      | nil => intro p _ s hs; cases hs
      | cons u r ihr =>
        intro p hp s hs
        simp only [keysOk, Bool.and_eq_true] at hp
        rcases List.mem_cons.1 hs with rfl | hs
        · exact hp.1
        · exact ihr _ hp.2.2 s hs
    refine .mk (fun _ => ⟨hx.1, by omega⟩) (fun _ => ⟨by omega, by omega⟩) (fun h3' => ?_) (fun _ => h8) (fun h6' => ?_) (keys ks none h11) (fun n5 n6 => ?_) (fun v hv => ih v hv (hit v hv))
    · subst h3'
      simpa using h9
    · have := h2 (by simp [h6'])
      simp only [bne_eq_false_iff_eq] at this
      omega
    · have := h3 (by simpa using n5) 
      have := this (by simpa using n6)
      apply List.eq_nil_of_length_eq_zero
      omega
theorem tok_und {v : ND} (hv : v.Sm) : TOk nm v → ∀ up : Nat, TOk nm (und L a up v) := by
 induction hv with
 | @mk x d k c s t is ks hi hk ht hs h ih =>
  intro hT up
  cases hT with
  | mk hx hkk h3 htt hks hkt hii hh =>
   rw [und_mk]
   split
   ·have hlt := I.ok.joinI_lt up x
    refine .mk (fun _ => ⟨by omega, by omega⟩) hkk h3 htt (fun h6 => by rw [List.length_map]; exact hks h6) hkt (fun h5 h6 => by rw [hii h5 h6]; rfl) (fun v hv => ?_)
    obtain ⟨y, hy, rfl⟩ := List.mem_map.1 hv
    exact ih y hy (hh y hy) _
   ·exact .mk (fun h => absurd rfl h) (fun h => absurd rfl h) (fun h => absurd h (by decide)) (fun h => absurd rfl h) (fun h => absurd h (by decide)) (fun s h => by cases h) (fun _ _ => rfl) (fun v h => by cases h)
end
end Go.Ab
end
section
namespace Go.Ab
def WrE (most : Int) (t : List UInt8) (a b : ShS) : Prop := (t = [] ∧ b = a) ∨ (t ≠ [] ∧ Wr most t a b)
theorem WrE.trans {most : Int} {t u : List UInt8} {a b c : ShS} (h : WrE most t a b) (k : WrE most u b c) : WrE most (t ++ u) a c := by
 rcases h with ⟨rfl, rfl⟩ | ⟨h0, h⟩
 ·simpa using k
 ·rcases k with ⟨rfl, rfl⟩ | ⟨k0, k⟩
  ·rw [List.append_nil]; exact .inr ⟨h0, h⟩
  ·exact .inr ⟨by simp [h0], h.trans k⟩
theorem WrE.nil (most : Int) (a : ShS) : WrE most [] a a := .inl ⟨rfl, rfl⟩
theorem WrE.wr {most : Int} {t : List UInt8} {a b : ShS} (h : WrE most t a b) (ht : t ≠ []) : Wr most t a b := by
 rcases h with ⟨h0, _⟩ | ⟨_, h⟩
 ·exact absurd h0 ht
 ·exact h
theorem Rdy.afterE {most : Int} {t : List UInt8} {n : Nat} {a b : ShS} (h : Rdy most (t.length + n) a) (w : WrE most t a b) : Rdy most n b := by
 rcases w with ⟨rfl, rfl⟩ | ⟨_, w⟩
 ·simpa using h
 ·exact h.after w
theorem putE {most : Int} (hm0 : -9223372036854775808 ≤ most) (hm1 : most ≤ 9223372036854775807) (xs : List (List UInt8)) (n : Nat) (st : ShS) (h0 : xs ≠ []) (hx : ∀ x ∈ xs, x ≠ []) (hR : Rdy most (xs.flatten.length + n) st) : ∃ st', putT most (xs.map qB) st = some st' ∧ WrE most xs.flatten st st' := by
 obtain ⟨st', h1, h2⟩ := put_wr hm0 hm1 xs n st h0 hx hR
 refine ⟨st', h1, .inr ⟨?_, h2⟩⟩
 cases xs with
 | nil => exact absurd rfl h0
 | cons x r =>
  have := hx x (List.mem_cons_self ..)
  simp [this]
theorem Rdy.eq {most : Int} {n m : Nat} {st : ShS} (h : Rdy most n st) (e : n = m) : Rdy most m st := e ▸ h
theorem ne_of_len {l : List UInt8} (h : 1 ≤ l.length) : l ≠ [] := by
 intro e; subst e; simp at h
section
variable {nm : List ByteArray} (hn : NmOk nm) {e : FV} {L : Lt} (I : IsLat e L) (hnl : L.n = nm.length) (hTx : ∀ j : Nat, j < L.n → Rt0 N_level_Lattice_Text [.fz (.pt 195 true e 0), .fz (.int .i64 j)] = some ([.fz (.str (nm.getD j ⟨#[]⟩))], [])) {most : Int} (hm0 : -9223372036854775808 ≤ most) (hm1 : most ≤ 9223372036854775807) (a : Int)
include hn I hnl hTx hm0 hm1
theorem items_show (N : Nat) (k : Int) (j : Nat) (ks : List ByteArray) (is : List ND) (hks : k = 6 → ks.length = is.length) (hkt : ∀ s ∈ ks, textB s = true) (hkz : ∀ s ∈ ks, s.size ≤ 134217728)
   (ih : ∀ v ∈ is, ∀ (st : ShS) (rest : Nat), Rdy most ((shT nm j (und L a j v)).length + rest) st → ∃ st', nodeS (.pt 195 true e 0) a most N v.enc j st = some st' ∧ WrE most (shT nm j (und L a j v)) st st') : ∀ (q i : Nat) (st : ShS) (rest : Nat), i + q = is.length →
   Rdy most ((shTs nm j k (decide (i = 0)) ((is.drop i).map (und L a j)) (ks.drop i)).length + rest) st →
   ∃ st', itemsF most (nodeS (.pt 195 true e 0) a most N) k (ks.map .str) j i ((is.drop i).map ND.enc) st = some st' ∧ (st.2 = true → st'.2 = true) ∧ (st.2 = false → WrE most (shTs nm j k (decide (i = 0)) ((is.drop i).map (und L a j)) (ks.drop i)) st st') := by
 intro q
 induction q with
 | zero =>
   intro i st rest hi hR
   rw [List.drop_eq_nil_of_le (by omega)]
   refine ⟨st, rfl, fun h => h, fun _ => ?_⟩
   simp only [List.map_nil, shTs]
   exact WrE.nil _ _
 | succ q jh =>
   intro i st rest hi hR
   have hl : i < is.length := by omega
   have hnode : isNode (is[i]).enc = true := by
     obtain ⟨b1, b2, b3, b4, b5, b6, b7, b8⟩ := is[i]
     rw [ND.enc_mk]; rfl
   rw [drop_cons hl, List.map_cons, List.map_cons, shTs_cons] at *
   simp only [itemsF]
   rw [if_neg (by rw [hnode]; simp)]
   obtain ⟨out, f⟩ := st
   cases f with
   | true => exact ⟨(out, true), by simp, fun h => h, fun h => Bool.noConfusion h⟩
   | false =>
     rw [if_neg (by simp)]
     have htl : ks.drop (i + 1) = (ks.drop i).tail := by rw [List.tail_drop]
     have hf1 : decide (i + 1 = 0) = false := decide_eq_false (by omega)
     -- the comma
     obtain ⟨s1, hc1, w1⟩ : ∃ s1, (if 0 < i then putT most [⟨#[44]⟩] (out, false) else some (out, false)) = some s1 ∧ WrE most (cma (decide (i = 0))) (out, false) s1 := by
       by_cases h0 : i = 0
       · rw [if_neg (by omega), decide_eq_true h0]
         exact ⟨_, rfl, WrE.nil _ _⟩
       · rw [if_pos (by omega)]
         rw [decide_eq_false h0] at hR ⊢
         obtain ⟨s1, h1, h2⟩ := putE hm0 hm1 [[44]] _ (out, false) (by simp) (by simp) (hR.eq (by simp only [cma, List.length_append, List.flatten_cons, List.flatten_nil, List.length_cons, List.length_nil]; rw [Nat.add_assoc]))
         exact ⟨s1, h1, by simpa [cma] using h2⟩
     have hR1 : Rdy most (((if k = 6 then qT (keyL ((ks.drop i).headD ⟨#[]⟩)) ++ [58] else []) ++ (shT nm j (und L a j is[i]) ++ shTs nm j k false ((is.drop (i + 1)).map (und L a j)) (ks.drop i).tail)).length + rest) s1 := by
       refine Rdy.afterE (hR.eq ?_) w1
       simp only [List.length_append]
       omega
     -- the key
     obtain ⟨s2, hc2, w2⟩ : ∃ s2, (if k = 6 ∧ i < (ks.map FV.str).length then (match (ks.map FV.str)[i]? with
         | some (.str k) => (qStr 87 [.str k]).bind fun e => (qStr 57 [.str e]).bind fun q => putT most [q, ⟨#[58]⟩] s1
         | _ => none) else some s1) = some s2 ∧ WrE most (if k = 6 then qT (keyL ((ks.drop i).headD ⟨#[]⟩)) ++ [58] else []) s1 s2 := by
       by_cases h6 : k = 6
       · have hlk : i < ks.length := by have := hks h6; omega
         have hhd : (ks.drop i).headD ⟨#[]⟩ = ks[i] := by rw [drop_cons hlk]; rfl
         have hsz := hkz ks[i] (List.getElem_mem hlk)
         have htx := hkt ks[i] (List.getElem_mem hlk)
         have hkz2 := keyL_size ks[i]
         have q1 := qStr_of (f := 87) (fs := [.str ks[i]]) (lift01 (key_ok ks[i] hsz))
         have q2 := qStr_of (f := 57) (fs := [.str (keyL ks[i])]) (quoted12_ok (s := keyL ks[i]) (by omega) (keyL_text htx))
         have hget : (ks.map FV.str)[i]? = some (.str ks[i]) := by rw [List.getElem?_map, List.getElem?_eq_getElem hlk]; rfl
         rw [if_pos ⟨h6, by rw [List.length_map]; exact hlk⟩, hget, if_pos h6, hhd]
         rw [if_pos h6, hhd] at hR1
         simp only [q1, q2, Option.bind_some]
         obtain ⟨s2, h1, h2⟩ := putE hm0 hm1 [qT (keyL ks[i]), [58]] _ s1 (by simp) (by
           intro x hx
           simp only [List.mem_cons, List.not_mem_nil, or_false] at hx
           rcases hx with rfl | rfl
           · exact ne_of_len (by have := qT_pos (keyL_text htx); omega)
           · simp) (hR1.eq (by simp only [List.length_append, List.flatten_cons, List.flatten_nil, List.length_cons, List.length_nil]; rw [Nat.add_assoc]))
         exact ⟨s2, h1, by simpa using h2⟩
       · rw [if_neg (fun h => h6 h.1), if_neg h6]
         exact ⟨_, rfl, WrE.nil _ _⟩
     have hR2 : Rdy most ((shT nm j (und L a j is[i])).length + ((shTs nm j k false ((is.drop (i + 1)).map (und L a j)) (ks.drop i).tail).length + rest)) s2 := by
       refine Rdy.afterE (hR1.eq ?_) w2
       simp only [List.length_append]
       omega
     obtain ⟨s3, hc3, w3⟩ := ih is[i] (List.getElem_mem hl) s2 _ hR2
     have hR3 := Rdy.afterE hR2 w3
     obtain ⟨s4, hc4, f4, w4⟩ := jh (i + 1) s3 rest (by omega) (by rw [hf1, htl]; exact hR3)
     rw [hf1, htl] at w4
     refine ⟨s4, ?_, fun h => Bool.noConfusion h, fun _ => ?_⟩
     · rw [hc1, Option.bind_some]
       refine (congrArg (Option.bind · _) hc2).trans ?_
       rw [Option.bind_some, hc3, Option.bind_some]
       exact hc4
     · refine w1.trans (w2.trans (w3.trans ?_))
       cases hs3 : s3.2 with
       | false => exact w4 hs3
       | true =>
         by_cases hnil : shTs nm j k false ((is.drop (i + 1)).map (und L a j)) (ks.drop i).tail = []
         · -- nothing is left
           have hd : is.drop (i + 1) = [] := by
             cases hd : is.drop (i + 1) with
             | nil => rfl
             | cons u r =>
               rw [hd, List.map_cons, shTs_cons] at hnil
               simp [cma] at hnil
           rw [hd, List.map_nil] at hc4
           have : s4 = s3 := by
             simp only [itemsF] at hc4
             exact (Option.some.inj hc4).symm
           rw [hnil, this]
           exact WrE.nil _ _
         · exact .inr ⟨hnil, ⟨fun _ => f4 hs3, fun h => absurd (hs3.symm.trans h) (by simp), fun h => absurd (hs3.symm.trans h) (by simp)⟩⟩
theorem node_show {v : ND} (hv : v.Sm) : mayB L v = true → ∀ (n : Nat), v.cnt ≤ n → ∀ (up : Nat) (st : ShS) (rest : Nat), Rdy most ((shT nm up (und L a up v)).length + rest) st → ∃ st', nodeS (.pt 195 true e 0) a most n v.enc up st = some st' ∧ WrE most (shT nm up (und L a up v)) st st' := by
 induction hv with
 | @mk x d k c s t is ks hi hk ht hs h ih =>
  intro hm n hcn up st rest hR
  have hT := tok_of hn I hnl hTx hm0 hm1 (ND.Sm.mk hi hk ht hs h) hm
  have hit := fun y hy => may_item hm (v := y) hy
  rw [ND.cnt_mk] at hcn
  obtain ⟨n, rfl⟩ : ∃ m, n = m + 1 := ⟨n - 1, by omega⟩
  have hk8 : k ≠ 8 := by
   intro e8
   subst e8
   simp only [mayB, strip_mk, shapeB_mk, Bool.and_eq_true, isR] at hm
   simp at hm
  cases hT with
  | mk hx hkk h3 htt hks hkt hii hh =>
  have hkk := hkk hk8
  have htt := htt hk8
  have q1 := qInt_of (fs := [.pt 195 true e 0, .int .i64 up, .int .i64 x]) (lift01 (lat_Join I up x))
  have q2 := qBool_of (fs := [.pt 195 true e 0, .int .i64 (L.joinI up x : Nat), .int .i64 a]) (lift01 (lat_Leq I (L.joinI up x : Nat) a))
  have hjl := I.ok.joinI_lt up x
  generalize hj : L.joinI up x = j at q1 q2 hjl
  rw [und_mk, hj] at hR ⊢
  simp only [nodeS, ND.enc_mk, nodeF, q1, q2, Option.bind_some]
  cases hle : L.leqI j a with
  | false =>
   rw [hle, if_neg (by simp)] at hR
   rw [if_pos rfl, if_neg (by simp)]
   have hh12 : shT nm up (holeN L) = hole12 := by unfold holeN; rw [shT_mk, if_pos rfl]
   rw [hh12] at hR ⊢
   obtain ⟨s1, h1, h2⟩ := putE hm0 hm1 [hole12] rest st (by simp) (by simp [hole12]) (by simpa using hR)
   exact ⟨s1, h1, by simpa using h2⟩
  | true =>
   rw [hle, if_pos rfl] at hR
   rw [if_neg (by simp), if_pos rfl]
   rw [shT_mk, if_neg hk8] at hR ⊢
   -- the body
   have body : ∀ (st : ShS) (rest : Nat), Rdy most ((bodyT k c s t (shTs nm j k true (is.map (und L a j)) ks)).length + rest) st → ∃ st', bodyF most (nodeS (.pt 195 true e 0) a most n) (.ag [.int .i64 x, .int .i64 d, .int .i64 k, .int .i64 c, .int .i64 s, .str t, .sl (is.map ND.enc), .sl (ks.map .str)]) j st = some st' ∧ WrE most (bodyT k c s t (shTs nm j k true (is.map (und L a j)) ks)) st st' := by
    intro st rest hR
    have one : ∀ (y : List UInt8), y ≠ [] → bodyT k c s t (shTs nm j k true (is.map (und L a j)) ks) = y → ∃ st', putT most [qB y] st = some st' ∧ WrE most y st st' := by
     intro y hy e
     rw [e] at hR
     obtain ⟨s1, h1, h2⟩ := putE hm0 hm1 [y] rest st (by simp) (by simpa using hy) (by simpa using hR)
     exact ⟨s1, h1, by simpa using h2⟩
    unfold bodyF
    simp only []
    rw [if_neg (by simp only [List.length_map]; omega)]
    by_cases h0 : k = 0
    ·subst h0; exact one _ (by simp) rfl
    rw [if_neg h0]
    by_cases h1 : k = 1
    ·subst h1; exact one _ (by simp) rfl
    rw [if_neg h1]
    by_cases h2 : k = 2
    ·subst h2; exact one _ (by simp) rfl
    rw [if_neg h2]
    by_cases h3' : k = 3
    ·have q := qStr_of (fs := [.ag [.int .i64 c, .int .i64 s]]) (pnum_ok (h3 h3'))
     rw [if_pos h3', q, Option.bind_some]
     subst h3'
     exact one _ (ne_of_len (numT_len (h3 rfl)).1) rfl
    rw [if_neg h3']
    have qq := qStr_of (fs := [.str t]) (quoted12_ok (s := t) (by omega) htt)
    have hqp := qT_pos htt
    by_cases h4 : k = 4
    ·rw [if_pos h4, qq, Option.bind_some]
     subst h4
     exact one _ (ne_of_len (by omega)) rfl
    rw [if_neg h4]
    by_cases h7 : k = 7
    ·rw [if_pos h7, qq, Option.bind_some]
     subst h7
     have e7 : bodyT 7 c s t (shTs nm j 7 true (is.map (und L a j)) ks) = [123, 34, 35, 33, 34, 58] ++ qT t ++ [125] := rfl
     rw [e7] at hR ⊢
     obtain ⟨s1, h1, h2⟩ := putE hm0 hm1 [[123, 34, 35, 33, 34, 58], qT t, [125]] rest st (by simp) (by
      intro y hy
      simp only [List.mem_cons, List.not_mem_nil, or_false] at hy
      rcases hy with rfl | rfl | rfl
      ·simp
      ·exact ne_of_len (by omega)
      ·simp) (hR.eq (by simp only [List.length_append, List.flatten_cons, List.flatten_nil, List.length_cons, List.length_nil]; omega))
     exact ⟨s1, h1, by simpa using h2⟩
    rw [if_neg h7]
    have h56 : k = 5 ∨ k = 6 := by omega
    have hb := bodyT_items (k := k) (c := c) (s := s) (t := t) h56 (shTs nm j k true (is.map (und L a j)) ks)
    rw [hb] at hR ⊢
    simp only [List.length_cons, List.length_append, List.length_nil] at hR
    have its := items_show hn I hnl hTx hm0 hm1 a n k j ks is hks hkt hs (fun v hv st rest hR => ih v hv (hit v hv) n (by have := cnt_le_of_mem hv; omega) j st rest hR) is.length 0
    rw [decide_eq_true rfl, List.drop_zero, List.drop_zero] at its
    have all : ∀ (o c : UInt8), Rdy most ((shTs nm j k true (is.map (und L a j)) ks).length + (0 + 1) + 1 + rest) st → ∃ st', ((putT most [qB [o]] st).bind fun st => (itemsF most (nodeS (.pt 195 true e 0) a most n) k (ks.map .str) j 0 (is.map ND.enc) st).bind fun st => putT most [qB [c]] st) = some st' ∧ WrE most (o :: (shTs nm j k true (is.map (und L a j)) ks ++ [c])) st st' := by
     intro o c hR
     obtain ⟨s1, p1, w1⟩ := putE hm0 hm1 [[o]] _ st (by simp) (by simp) (hR.eq (m := ([[o]] : List (List UInt8)).flatten.length + ((shTs nm j k true (is.map (und L a j)) ks).length + (1 + rest))) (by simp only [List.flatten_cons, List.flatten_nil, List.length_append, List.length_cons, List.length_nil]; omega))
     have hR1 : Rdy most ((shTs nm j k true (is.map (und L a j)) ks).length + (1 + rest)) s1 := by
      refine Rdy.afterE (hR.eq ?_) w1
      simp only [List.flatten_cons, List.flatten_nil, List.length_append, List.length_cons, List.length_nil]
      omega
     obtain ⟨s2, p2, f2, w2⟩ := its s1 (1 + rest) (by omega) hR1
     have hR2 : Rdy most (1 + rest) s2 := by
      cases hs1 : s1.2 with
      | false => exact Rdy.afterE hR1 (w2 hs1)
      | true => exact fun h => by rw [f2 hs1] at h; cases h
     obtain ⟨s3, p3, w3⟩ := putE hm0 hm1 [[c]] rest s2 (by simp) (by simp) (hR2.eq (by simp))
     refine ⟨s3, ?_, ?_⟩
     ·rw [show putT most [qB [o]] st = some s1 from p1, Option.bind_some, p2, Option.bind_some]
      exact p3
     ·refine .inr ⟨by simp, ?_⟩
      have w1' : WrE most [o] st s1 := by simpa using w1
      have w3' : WrE most [c] s2 s3 := by simpa using w3
      cases hs1 : s1.2 with
      | false => exact (w1'.trans ((w2 hs1).trans w3')).wr (by simp)
      | true =>
       have f3 := (w3'.wr (by simp)).full (f2 hs1)
       have ww := w1'.wr (by simp)
       refine ⟨fun h => f3, fun h hl => ?_, fun _ _ => f3⟩
       have := ww.fits h (by simp only [List.length_cons, List.length_append, List.length_nil] at hl ⊢; omega)
       rw [this] at hs1
       cases hs1
    rcases h56 with h5 | h6
    ·have h6' : k ≠ 6 := by omega
     rw [if_pos h5, if_neg h6', if_neg h6'] 
     obtain ⟨s3, p3, w3⟩ := all 91 93 hR
     exact ⟨s3, p3, w3⟩
    ·have h5' : k ≠ 5 := by omega
     rw [if_neg h5', if_pos h6, if_pos h6, if_pos h6]
     obtain ⟨s3, p3, w3⟩ := all 123 125 hR
     exact ⟨s3, p3, w3⟩
   by_cases hup : j = up
   ·rw [if_pos (by omega)] at hR ⊢
    rw [if_pos (by omega)]
    obtain ⟨s1, p1, w1⟩ := body st rest hR
    exact ⟨s1, p1, w1⟩
   ·rw [if_neg (by omega)] at hR ⊢
    rw [if_neg (by omega)]
    have q3 := qStr_of (f := 58) (fs := [.pt 195 true e 0, .int .i64 j]) (lift01 (hTx j hjl))
    have hmem : nm.getD j ⟨#[]⟩ ∈ nm := by
     rw [List.getD_eq_getElem?_getD, List.getElem?_eq_getElem (by omega)]
     exact List.getElem_mem (by omega)
    have q4 := qStr_of (f := 57) (fs := [.str (nm.getD j ⟨#[]⟩)]) (quoted12_ok (by have := (hn _ hmem).1; omega) (hn _ hmem).2)
    have hqp := qT_pos (hn _ hmem).2
    rw [q3, Option.bind_some, q4, Option.bind_some]
    simp only [Int.toNat_natCast] at hR ⊢
    obtain ⟨s1, p1, w1⟩ := putE hm0 hm1 [[123, 34, 35, 34, 58], qT (nm.getD j ⟨#[]⟩), [44, 34, 61, 34, 58]] ((bodyT k c s t (shTs nm j k true (is.map (und L a j)) ks)).length + (1 + rest)) st (by simp) (by
     intro y hy
     simp only [List.mem_cons, List.not_mem_nil, or_false] at hy
     rcases hy with rfl | rfl | rfl
     ·simp
     ·exact ne_of_len (by omega)
     ·simp) (hR.eq (by simp only [List.length_append, List.flatten_cons, List.flatten_nil, List.length_cons, List.length_nil]; omega))
    obtain ⟨s2, p2, w2⟩ := body s1 (1 + rest) (by
     refine Rdy.afterE (hR.eq ?_) w1
     simp only [List.length_append, List.flatten_cons, List.flatten_nil, List.length_cons, List.length_nil]
     omega)
    obtain ⟨s3, p3, w3⟩ := putE hm0 hm1 [[125]] rest s2 (by simp) (by simp) (by
     have := Rdy.afterE (t := bodyT k c s t (shTs nm j k true (is.map (und L a j)) ks)) (n := 1 + rest) (a := s1) (b := s2) (most := most) (by
      refine Rdy.afterE (hR.eq ?_) w1
      simp only [List.length_append, List.flatten_cons, List.flatten_nil, List.length_cons, List.length_nil]
      omega) w2
     exact this.eq (by simp))
    refine ⟨s3, ?_, ?_⟩
    ·rw [show putT most [⟨#[123, 34, 35, 34, 58]⟩, qB (qT (nm.getD j ⟨#[]⟩)), ⟨#[44, 34, 61, 34, 58]⟩] st = some s1 from p1, Option.bind_some, p2, Option.bind_some]
     exact p3
    ·have := w1.trans (w2.trans w3)
     simpa using this
end
end Go.Ab
end
section
namespace Go.Ab
def nmsB (l : List ByteArray) : Bool := (l.all fun s => decide (s.size ≤ 134217728) && textB s) && ((List.range l.length).all fun i => (List.range l.length).all fun j => (!decide (l.getD i ⟨#[]⟩ = l.getD j ⟨#[]⟩)) || i == j)
theorem Sort_nm (k : Int) : ∃ P : Pol, P.ok = true ∧ nmsB P.names = true ∧ Rt0 N_ref01_Sort [.fz (.int .i64 k)] = some ([.fz P.e], []) := by
 have hr : ∀ r, callL Rt0 0 true A_ref01_Sort [.fz (.int .i64 k)] = some r → Rt0 N_ref01_Sort [.fz (.int .i64 k)] = some r := fun r h => rt_call0 A_ref01_Sort rfl rfl 0 h
 rw [E_ref01_Sort] at hr
 generalize (Int.tmod (IntKind.wrap .i64 ((Int.tmod k 6) + 6)) 6) = v at hr
 by_cases h0 : v = 0
 ·refine ⟨pol0, pol0_ok, by decide +kernel, hr _ ?_⟩
  rw [show (v == 0) = true by simp [h0]]; rfl
 by_cases h1 : v = 1
 ·refine ⟨pol1, pol1_ok, by decide +kernel, hr _ ?_⟩
  rw [show (v == 0) = false by simp [h0], show (v == 1) = true by simp [h1]]; rfl
 by_cases h2 : v = 2
 ·refine ⟨pol2, pol2_ok, by decide +kernel, hr _ ?_⟩
  rw [show (v == 0) = false by simp [h0], show (v == 1) = false by simp [h1], show (v == 2) = true by simp [h2]]; rfl
 by_cases h3 : v = 3
 ·refine ⟨pol3, pol3_ok, by decide +kernel, hr _ ?_⟩
  rw [show (v == 0) = false by simp [h0], show (v == 1) = false by simp [h1], show (v == 2) = false by simp [h2], show (v == 3) = true by simp [h3]]; rfl
 by_cases h4 : v = 4
 ·refine ⟨pol4, pol4_ok, by decide +kernel, hr _ ?_⟩
  rw [show (v == 0) = false by simp [h0], show (v == 1) = false by simp [h1], show (v == 2) = false by simp [h2], show (v == 3) = false by simp [h3], show (v == 4) = true by simp [h4]]; rfl
 ·refine ⟨pol5, pol5_ok, by decide +kernel, hr _ ?_⟩
  rw [show (v == 0) = false by simp [h0], show (v == 1) = false by simp [h1], show (v == 2) = false by simp [h2], show (v == 3) = false by simp [h3], show (v == 4) = false by simp [h4]]; rfl
theorem of_ok (k : Int) : ∃ P : Pol, P.ok = true ∧ nmsB P.names = true ∧ Rt0 N_law12_of [.fz (.int .i64 k)] = some ([.fz (.pt 195 true (latR P.names P.g) 0), .fz (.sl (tabL P.names.length (rowOf P.names.length P.pairs) P.names.length)), .fz (.sl (P.names.map .str))], []) := by
 obtain ⟨P, hP, hN, hS⟩ := Sort_nm k
 refine ⟨P, hP, hN, ?_⟩
 refine rt_call0 A_law12_of rfl rfl 0 ?_
 rw [E_law12_of, hS]
 have hf : FV.fits 3 true P.e = true := rfl
 have ha : FV.isAg 3 P.e = true := rfl
 have hc : P.e.cell 0 = .sl (P.names.map .str) := rfl
 simp only [onR_some, List.isEmpty_nil, allF_cons, allF_nil, Bool.and_true, when_true', List.getD_cons_zero, List.getD_cons_succ, toF_fz, hf, ha, hc, Pol.new hP, Pol.table hP, isInt_int]
end Go.Ab
end
section
namespace Go.Ab
theorem Bottom1 {t : List FV} {L : Lt} (T : IsTab t L) (h8 : L.n ≤ 8) {c K : Nat} (hc : c < L.n) : ∀ (m d N : Nat) (is : Bool), d + m = L.n → m < N →
   L_ref09_Bottom_1_0 Rt0 K true N t c is d = some (.exit 2, X_ref09_Bottom_1_0 t c (is && allI (fun d => L.leq c d) m d))
 | m, d, 0, _, _, h => by omega
 | 0, d, N + 1, is, h, _ => by
   rw [L_ref09_Bottom_1_0_eq, T.len]
   simp [show ¬ ((d : Int) < (L.n : Int)) by omega, allI]
 | m + 1, d, N + 1, is, h, hN => by
   have hd : d < L.n := by omega
   have ih := fun is => Bottom1 T h8 (K := K) hc m (d + 1) N is (by omega) (by omega)
   have hlt : decide ((d : Int) < (L.n : Int)) = true := by simp; omega
   rw [L_ref09_Bottom_1_0_eq, T.len]
   simp only [dlt hc, dlt hd, Int.toNat_natCast, T.fits c hc, T.sl c hc, T.rlen c hc, T.cell c d hc hd, fits_bool, isBool_bool, toBool_bool, when_true', wrn (show d < 1152921504606846976 by omega), ih, allI]
   rw [hlt, ifB_true]
   cases is <;> simp
theorem Bottom2 {t : List FV} {L : Lt} (T : IsTab t L) (O : L.Ok) {K : Nat} (hK : 9 < K) : ∀ (m c N : Nat), c + m = L.n → c ≤ L.bot → m < N →
   onL (L_ref09_Bottom_2_0 Rt0 K true N t c) (K_ref09_Bottom_2 Rt0 K true) = some ([.fz (.int .i64 L.bot)], [])
 | m, d, 0, _, _, h => by omega
 | 0, c, N + 1, h, hb, _ => by have := O.bot; omega
 | m + 1, c, N + 1, h, hb, hN => by
   have h8 := O.n8
   have hc : c < L.n := by omega
   have hlt : decide ((c : Int) < (L.n : Int)) = true := by simp; omega
   have i1 := Bottom1 T O.n8 (K := K) hc L.n 0 K true (by omega) (by omega)
   simp only [Int.natCast_zero] at i1
   rw [L_ref09_Bottom_2_0_eq, T.len]
   simp only [hlt, ifB_true, i1, onL_some, X_ref09_Bottom_1_0_eq, Bool.true_and, wrn (show c < 1152921504606846976 by omega)]
   cases q : allI (fun d => L.leq c d) L.n 0 with
   | true =>
     have q := allI_iff.1 q
     have e : c = L.bot := O.anti _ _ hc O.bot (q _ (by omega) (by have := O.bot; omega)) (O.botle c hc)
     subst e
     simp only [ifB_true, onL_some, X_ref09_Bottom_2_1_eq]
   | false =>
     have e : c ≠ L.bot := fun e => by
       have : allI (fun d => L.leq c d) L.n 0 = true := allI_iff.2 fun d _ hd => by subst e; exact O.botle d (by omega)
       rw [this] at q; cases q
     simp only [ifB_false]
     exact Bottom2 T O hK m (c + 1) N (by omega) (by omega) (by omega)
theorem bottom9_ok {t : List FV} {L : Lt} (T : IsTab t L) (O : L.Ok) : Rt0 N_ref09_Bottom [.fz (.sl t)] = some ([.fz (.int .i64 L.bot)], []) := by
 refine rt_call0 A_ref09_Bottom rfl rfl 12 ?_
 rw [E_ref09_Bottom]
 have h8 := O.n8
 exact Bottom2 T O (by omega) L.n 0 12 (by omega) (by omega) (by omega)
end Go.Ab
end
section
namespace Go.Ab
theorem Top1 {t : List FV} {L : Lt} (T : IsTab t L) (h8 : L.n ≤ 8) {c K : Nat} (hc : c < L.n) : ∀ (m d N : Nat) (is : Bool), d + m = L.n → m < N →
   L_ref09_Top_1_0 Rt0 K true N t c is d = some (.exit 2, X_ref09_Top_1_0 t c (is && allI (fun d => L.leq d c) m d))
 | m, d, 0, _, _, h => by omega
 | 0, d, N + 1, is, h, _ => by
   rw [L_ref09_Top_1_0_eq, T.len]
   simp [show ¬ ((d : Int) < (L.n : Int)) by omega, allI]
 | m + 1, d, N + 1, is, h, hN => by
   have hd : d < L.n := by omega
   have ih := fun is => Top1 T h8 (K := K) hc m (d + 1) N is (by omega) (by omega)
   have hlt : decide ((d : Int) < (L.n : Int)) = true := by simp; omega
   rw [L_ref09_Top_1_0_eq, T.len]
   simp only [dlt hc, dlt hd, Int.toNat_natCast, T.fits d hd, T.sl d hd, T.rlen d hd, T.cell d c hd hc, fits_bool, isBool_bool, toBool_bool, when_true', wrn (show d < 1152921504606846976 by omega), ih, allI]
   rw [hlt, ifB_true]
   cases is <;> simp
theorem Top2 {t : List FV} {L : Lt} (T : IsTab t L) (O : L.Ok) {K : Nat} (hK : 9 < K) : ∀ (m c N : Nat), c + m = L.n → c ≤ L.top → m < N →
   onL (L_ref09_Top_2_0 Rt0 K true N t c) (K_ref09_Top_2 Rt0 K true) = some ([.fz (.int .i64 L.top)], [])
 | m, d, 0, _, _, h => by omega
 | 0, c, N + 1, h, hb, _ => by have := O.top; omega
 | m + 1, c, N + 1, h, hb, hN => by
   have h8 := O.n8
   have hc : c < L.n := by omega
   have hlt : decide ((c : Int) < (L.n : Int)) = true := by simp; omega
   have i1 := Top1 T O.n8 (K := K) hc L.n 0 K true (by omega) (by omega)
   simp only [Int.natCast_zero] at i1
   rw [L_ref09_Top_2_0_eq, T.len]
   simp only [hlt, ifB_true, i1, onL_some, X_ref09_Top_1_0_eq, Bool.true_and, wrn (show c < 1152921504606846976 by omega)]
   cases q : allI (fun d => L.leq d c) L.n 0 with
   | true =>
     have q := allI_iff.1 q
     have e : c = L.top := O.anti _ _ hc O.top (O.letop c hc) (q _ (by omega) (by have := O.top; omega))
     subst e
     simp only [ifB_true, onL_some, X_ref09_Top_2_1_eq]
   | false =>
     have e : c ≠ L.top := fun e => by
       have : allI (fun d => L.leq d c) L.n 0 = true := allI_iff.2 fun d _ hd => by subst e; exact O.letop d (by omega)
       rw [this] at q; cases q
     simp only [ifB_false]
     exact Top2 T O hK m (c + 1) N (by omega) (by omega) (by omega)
theorem top9_ok {t : List FV} {L : Lt} (T : IsTab t L) (O : L.Ok) : Rt0 N_ref09_Top [.fz (.sl t)] = some ([.fz (.int .i64 L.top)], []) := by
 refine rt_call0 A_ref09_Top rfl rfl 12 ?_
 rw [E_ref09_Top]
 have h8 := O.n8
 exact Top2 T O (by omega) L.n 0 12 (by omega) (by omega) (by omega)
end Go.Ab
end
section
namespace Go.Ab
section
variable {t9 : List FV} {L : Lt} (T : IsTab t9 L)
include T
theorem sees_ok (x a : Int) : Rt0 N_ref11_sees [.fz (.sl t9), .fz (.int .i64 x), .fz (.int .i64 a)] = some ([.fz (.bool (L.leqI x a))], []) := by
 refine rt_call0 A_ref11_sees rfl rfl 0 ?_
 rw [E_ref11_sees, T.len]
 unfold Lt.leqI Lt.is
 by_cases h1 : 0 ≤ a
 ·by_cases h2 : a < L.n
  ·by_cases h3 : 0 ≤ x
   ·by_cases h4 : x < L.n
    ·have g1 := T.fits x.toNat (by omega)
     have g2 := T.sl x.toNat (by omega)
     have g3 := T.rlen x.toNat (by omega)
     have g4 := T.cell x.toNat a.toNat (by omega) (by omega)
     simp only [ge_iff_le, decide_eq_true h1, decide_eq_true h2, decide_eq_true h3, decide_eq_true h4, ifB_true, Bool.and_true, when_true', g1, g2, g3, g4, fits_bool, isBool_bool, toBool_bool, Bool.true_and]
    ·simp only [ge_iff_le, decide_eq_true h1, decide_eq_true h2, decide_eq_true h3, decide_eq_false h4, ifB_true, ifB_false, Bool.and_false, Bool.false_and]
   ·simp only [ge_iff_le, decide_eq_true h1, decide_eq_true h2, decide_eq_false h3, ifB_true, ifB_false, Bool.false_and]
  ·simp only [ge_iff_le, decide_eq_true h1, decide_eq_false h2, ifB_true, ifB_false, Bool.and_false, Bool.false_and]
 ·simp only [ge_iff_le, decide_eq_false h1, ifB_false, Bool.false_and, Bool.and_false]
theorem rat_ok (O : L.Ok) (a : Int) {v : ND} (hv : v.Sm) : ∀ up : Nat, up < L.n → labB L v = true → Rt0 N_ref11_At [.fz (.sl t9), .fz v.enc, .fz (.int .i64 up), .fz (.int .i64 a)] = some ([.fz (und L a up v).enc], []) := by
 have hroom : roomy = 140737488355328 := rfl
 induction hv with
 | @mk x d k c s t is ks hi hk ht hs h ih =>
   intro up hup hlab
   rw [labB_mk, Bool.and_eq_true] at hlab
   have hx := Lt.is_iff.1 hlab.1
   obtain ⟨y, rfl⟩ : ∃ y : Nat, x = y := ⟨x.toNat, by omega⟩
   have hy : y < L.n := by omega
   have hu := O.join up y hup hy
   have hj := join9_ok T O hup hy
   have hq := sees_ok T (L.join up y) a
   have htop := top9_ok T O
   refine rt_call0 A_ref11_At rfl rfl (is.length + 1) ?_
   rw [ND.enc_mk, E_ref11_At, hj, und_mk, Lt.joinI_nat hup hy]
   have hull := und_lab (L := L) O (a := a) (ND.Sm.mk (a := y) (d := d) (k := k) (c := c) (s := s) hi hk ht hs h) up
   rw [und_mk, Lt.joinI_nat hup hy] at hull
   generalize hgu : L.join up y = u at hj hq hu hull
   simp only [onR_some, onL_some, List.isEmpty_nil, allF_cons, allF_nil, Bool.and_true, Bool.true_and, when_true', List.getD_cons_zero, List.getD_cons_succ, isF_fz, toF_fz, isBool_bool, toBool_bool, isInt_int, toInt_int, isStr_str, toStr_str, isSl_sl, toSl_sl, List.length_cons, List.length_nil, List.all_cons, List.all_nil, lisFz_fz, ltoFz_fz, beq_self_eq_true, jump_true, ifB_true, ifB_false, isF_pv, isPv_pv, toV_pv, isNil_nilp, isNil_pt, isPt_pt, toAg_ag, cell_ag, isAg_ag, fits_ag, Int.toNat_natCast, Bool.not_true, Bool.not_false, fits_int, fits_bool, fits_str, fits_sl, hq]
   cases hlq : L.leqI u a with
   | false => simp only [onR_some, onL_some, List.isEmpty_nil, allF_cons, allF_nil, Bool.and_true, Bool.true_and, when_true', List.getD_cons_zero, List.getD_cons_succ, isF_fz, toF_fz, isBool_bool, toBool_bool, isInt_int, toInt_int, isStr_str, toStr_str, isSl_sl, toSl_sl, List.length_cons, List.length_nil, List.all_cons, List.all_nil, lisFz_fz, ltoFz_fz, beq_self_eq_true, jump_true, ifB_true, ifB_false, isF_pv, isPv_pv, toV_pv, isNil_nilp, isNil_pt, isPt_pt, toAg_ag, cell_ag, isAg_ag, fits_ag, Int.toNat_natCast, Bool.not_true, Bool.not_false, fits_int, fits_bool, fits_str, fits_sl, htop, holeN, ND.enc_mk, List.map_nil, Bool.false_eq_true, if_false]
   | true =>
     rw [hlq, if_pos rfl] at hull
     rw [if_pos rfl]
     simp only [onR_some, onL_some, List.isEmpty_nil, allF_cons, allF_nil, Bool.and_true, Bool.true_and, when_true', List.getD_cons_zero, List.getD_cons_succ, isF_fz, toF_fz, isBool_bool, toBool_bool, isInt_int, toInt_int, isStr_str, toStr_str, isSl_sl, toSl_sl, List.length_cons, List.length_nil, List.all_cons, List.all_nil, lisFz_fz, ltoFz_fz, beq_self_eq_true, jump_true, ifB_true, ifB_false, isF_pv, isPv_pv, toV_pv, isNil_nilp, isNil_pt, isPt_pt, toAg_ag, cell_ag, isAg_ag, fits_ag, Int.toNat_natCast, Bool.not_true, Bool.not_false, fits_int, fits_bool, fits_str, fits_sl]
     have hsm : (ND.mk (u : Int) d k c s t (is.map (und L a u)) ks).Sm := .mk (by simpa using hi) hk ht hs (fun v hv => by obtain ⟨y, hy, rfl⟩ := List.mem_map.1 hv; exact und_sm (h y hy) _)
     have hlab' : labB L (ND.mk (u : Int) d k c s t (is.map (und L a u)) ks) = true := by
       have := hull.1
       rw [labB_mk] at this ⊢; exact this
     have hdeep := deep9_ok T O hsm hlab'
     have hdp : (deepN L (ND.mk (u : Int) d k c s t (is.map (und L a u)) ks) : Int) = deepP L u (is.map (und L a u)) := by
       have := hull.2
       rw [rightB_mk, Bool.and_eq_true, decide_eq_true_eq] at this
       rw [deepN_mk]; exact this.1.symm
     rw [hdp] at hdeep
     have z : ∀ (z0 z1 z2 z3 z4 : Int) (z5 : ByteArray) (j i : Nat) (acc : List ND), i + j = is.length → acc.length = i → onL (L_ref11_At_1_1 Rt0 (is.length + 1) true (j + 1) t9 a u i y d k c s t (is.map ND.enc) (ks.map .str) z0 z1 z2 z3 z4 z5 u d k c s t (ks.map .str) (acc.map ND.enc)) (K_ref11_At_1 Rt0 (is.length + 1) true) =
         onL (some (.exit 0, X_ref11_At_1_1 t9 z0 z1 z2 z3 z4 z5 u d k c s t (ks.map .str) ((acc ++ (is.drop i).map (und L a u)).map ND.enc))) (K_ref11_At_1 Rt0 (is.length + 1) true) := by
       intro z0 z1 z2 z3 z4 z5 j
       induction j with
       | zero =>
         intro i acc hij hac
         rw [L_ref11_At_1_1_eq, List.drop_eq_nil_of_le (by omega)]
         simp only [List.length_map, decide_eq_false (show ¬ ((i : Int) < (is.length : Int)) by omega), ifB_false, List.map_nil, List.append_nil]
       | succ j jh =>
         intro i acc hij hac
         have hl : i < is.length := by omega
         have h1 := ih is[i] (List.getElem_mem hl) u hu (labBs_iff.1 hlab.2 _ (List.getElem_mem hl))
         have h2 := jh (i + 1) (acc ++ [und L a u is[i]]) (by omega) (by simp; omega)
         push_cast at h2
         rw [List.map_append, List.map_singleton, List.append_assoc, List.singleton_append] at h2
         have hw : IntKind.wrap .i64 ((i : Int) + 1) = (i : Int) + 1 := wrap64 (by omega) (by omega)
         have hro : (decide (((acc.map ND.enc).length + [(und L a u is[i]).enc].length) * 104 ≤ roomy) && decide ((acc.map ND.enc).length + [(und L a u is[i]).enc].length ≤ roomy)) = true := by simp; omega
         rw [L_ref11_At_1_1_eq, drop_cons hl, List.map_cons]
         have hg : (is.map ND.enc).getD i .nilp = (is[i]).enc := by simp [hl]
         simp only [List.length_map, decide_eq_true (show (i : Int) < (is.length : Int) by omega), decide_eq_true (show (0 : Int) ≤ (i : Int) by omega), ifB_true, Bool.and_true, when_true', Int.toNat_natCast, hg, ND.enc_fits, h1, onR_some, List.isEmpty_nil, allF_cons, allF_nil, List.getD_cons_zero, toF_fz, hw] at hro ⊢
         simp only [hro, when_true', h2]
     have fin : ∀ z0 z1 z2 z3 z4 z5, onL (some (.exit 0, X_ref11_At_1_1 t9 z0 z1 z2 z3 z4 z5 u d k c s t (ks.map .str) ((is.map (und L a u)).map ND.enc))) (K_ref11_At_1 Rt0 (is.length + 1) true) = some ([.fz (ND.mk u (deepP L u (is.map (und L a u))) k c s t (is.map (und L a u)) ks).enc], []) := by
       intro z0 z1 z2 z3 z4 z5
       rw [onL_some, X_ref11_At_1_1_eq, ← ND.enc_mk, hdeep]
       simp only [onR_some, onL_some, List.isEmpty_nil, allF_cons, allF_nil, Bool.and_true, Bool.true_and, when_true', List.getD_cons_zero, List.getD_cons_succ, isF_fz, toF_fz, isBool_bool, toBool_bool, isInt_int, toInt_int, isStr_str, toStr_str, isSl_sl, toSl_sl, List.length_cons, List.length_nil, List.all_cons, List.all_nil, lisFz_fz, ltoFz_fz, beq_self_eq_true, jump_true, ifB_true, ifB_false, isF_pv, isPv_pv, toV_pv, isNil_nilp, isNil_pt, isPt_pt, toAg_ag, cell_ag, isAg_ag, fits_ag, Int.toNat_natCast, Bool.not_true, Bool.not_false, fits_int, fits_bool, fits_str, fits_sl, ND.enc_mk]
     rw [L_ref11_At_1_0_eq]
     cases is with
     | nil =>
       simp only [List.length_map, List.length_nil, List.map_nil, decide_eq_false (show ¬ ((0 : Int) < ((0 : Nat) : Int)) by omega), ifB_false, onL_some, X_ref11_At_1_0_eq]
       rw [List.map_nil, ND.enc_mk, List.map_nil] at hdeep
       rw [hdeep]
       simp only [onR_some, onL_some, List.isEmpty_nil, allF_cons, allF_nil, Bool.and_true, Bool.true_and, when_true', List.getD_cons_zero, List.getD_cons_succ, isF_fz, toF_fz, isBool_bool, toBool_bool, isInt_int, toInt_int, isStr_str, toStr_str, isSl_sl, toSl_sl, List.length_cons, List.length_nil, List.all_cons, List.all_nil, lisFz_fz, ltoFz_fz, beq_self_eq_true, jump_true, ifB_true, ifB_false, isF_pv, isPv_pv, toV_pv, isNil_nilp, isNil_pt, isPt_pt, toAg_ag, cell_ag, isAg_ag, fits_ag, Int.toNat_natCast, Bool.not_true, Bool.not_false, fits_int, fits_bool, fits_str, fits_sl, ND.enc_mk, List.map_nil]
     | cons v0 vs =>
       have h1 := ih v0 (List.mem_cons_self ..) u hu (labBs_iff.1 hlab.2 _ (List.mem_cons_self ..))
       have h2 := z 0 0 0 0 0 (⟨#[]⟩ : ByteArray) (vs.length - 0) 1 [und L a u v0] (by simp; omega) rfl
       have hz : ∀ x : ND, (decide (((0 : Nat) + [x.enc].length) * 104 ≤ roomy) && decide ((0 : Nat) + [x.enc].length ≤ roomy)) = true := fun x => rfl
       have hz := hz (und L a u v0)
       have w0 : IntKind.wrap .i64 ((0 : Int) + 1) = ((1 : Nat) : Int) := by rw [wrap64 (by omega) (by omega)]; rfl
       have d0 : decide ((0 : Int) ≤ 0) = true := by decide
       have t0 : (0 : Int).toNat = 0 := rfl
       have hfin := fin 0 0 0 0 0 (⟨#[]⟩ : ByteArray)
       simp only [List.map_cons, List.map_nil, List.length_cons, List.length_map, decide_eq_true (show (0 : Int) < ((vs.length + 1 : Nat) : Int) by omega), d0, t0, ifB_true, Bool.and_true, when_true', List.getD_cons_zero, ND.enc_fits, h1, onR_some, List.isEmpty_nil, allF_cons, allF_nil, toF_fz, w0, Nat.sub_zero, List.drop_succ_cons, List.drop_zero, List.singleton_append] at h2 hz hfin ⊢
       simp only [hz, when_true']
       exact h2.trans hfin
theorem erase_ok (O : L.Ok) (a : Int) {v : ND} (hv : v.Sm) (hl : labB L v = true) : Rt0 N_ref11_Erase [.fz (.sl t9), .fz v.enc, .fz (.int .i64 a)] = some ([.fz (und L a L.bot v).enc], []) := by
 have h := rat_ok T O a hv L.bot O.bot hl
 have hf := (und L a L.bot v).enc_fits
 have hb := bottom9_ok T O
 obtain ⟨x, d, k, c, s, t, is, ks⟩ := v
 have hE := E_ref11_Erase Rt0 0 true t9 x d k c s t (is.map ND.enc) (ks.map .str) a
 rw [← ND.enc_mk] at hE
 refine rt_call0 A_ref11_Erase rfl rfl 0 (hE.trans ?_)
 simp only [hb, onR_some, onL_some, List.isEmpty_nil, allF_cons, allF_nil, Bool.and_true, Bool.true_and, when_true', List.getD_cons_zero, List.getD_cons_succ, isF_fz, toF_fz, isBool_bool, toBool_bool, isInt_int, toInt_int, isStr_str, toStr_str, isSl_sl, toSl_sl, List.length_cons, List.length_nil, List.all_cons, List.all_nil, lisFz_fz, ltoFz_fz, beq_self_eq_true, jump_true, ifB_true, ifB_false, isF_pv, isPv_pv, toV_pv, isNil_nilp, isNil_pt, isPt_pt, toAg_ag, cell_ag, isAg_ag, fits_ag, Int.toNat_natCast, Bool.not_true, Bool.not_false, fits_int, fits_bool, fits_str, fits_sl, h, hf]
end
end Go.Ab
end
section
namespace Go.Ab
theorem choose_list {α β : Type} {f : α → β} {p : α → Prop} : ∀ {l : List β}, (∀ x ∈ l, ∃ a, x = f a ∧ p a) → ∃ m : List α, l = m.map f ∧ ∀ a ∈ m, p a
 | [], _ => ⟨[], rfl, fun _ h => by cases h⟩
 | x :: l, h => by
  obtain ⟨a, rfl, ha⟩ := h x (List.mem_cons_self ..)
  obtain ⟨m, rfl, hm⟩ := choose_list (l := l) fun y hy => h y (List.mem_cons_of_mem _ hy)
  exact ⟨a :: m, rfl, fun b hb => by rcases List.mem_cons.1 hb with rfl | hb; exact ha; exact hm b hb⟩
section
variable {P : Program} {D B : Nat}
theorem wc_int {k : IntKind} {f : FV} (h : WC P D B (.int k) f) : ∃ n, f = .int k n ∧ (Lit.int k n).wf = true := by
 cases h; exact ⟨_, rfl, by assumption⟩
theorem wc_str {f : FV} (h : WC P D B .str f) : ∃ s, f = .str s ∧ s.size ≤ B := by
 cases h; exact ⟨_, rfl, by assumption⟩
theorem wc_strs {ts : Nat} (hfs : flat P D ts = [.str]) (hss : szOf P ts = some (1, false)) {f : FV} (h : WC P D B (.sl ts) f) : ∃ l : List ByteArray, f = .sl (l.map .str) ∧ (∀ s ∈ l, s.size ≤ B) ∧ l.length * P.bytesOf ts ≤ B := by
 cases h with
 | sl _ es hl hb hf h =>
  obtain ⟨m, rfl, hm⟩ := choose_list (f := FV.str) (p := fun s => s.size ≤ B) (l := es) fun x hx => by
   obtain ⟨n, agg, hs, hfit⟩ := hf x hx
   rw [hss] at hs; cases hs
   have hc := (fits_one hfit).2.2
   exact wc_str (h x hx 0 x .str (by rw [hc]; rfl) (by rw [hfs]; rfl))
  exact ⟨m, rfl, hm, by simpa using hb⟩
theorem int_of {t : Nat} {k : IntKind} (hft : flat P D t = [.int k]) (hst : szOf P t = some (1, false)) {f : FV} (h : WV P D B t f) : ∃ a : Int, f = .int k a ∧ (Lit.int k a).wf = true := by
 obtain ⟨⟨n, agg, hs, hfit⟩, H⟩ := h
 rw [hst] at hs; cases hs
 have hc := (fits_one hfit).2.2
 exact wc_int (H 0 f (.int k) (by rw [hc]; rfl) (by rw [hft]; rfl))
theorem cells_of {t n : Nat} (hst : szOf P t = some (n, true)) {f : FV} (h : WV P D B t f) : ∃ cs, f = .ag cs ∧ cs.length = n ∧ ∀ (j : Nat) (x : FV) (c : CT), cs[j]? = some x → (flat P D t)[j]? = some c → WC P D B c x := by
  obtain ⟨⟨m, agg, hs, hfit⟩, H⟩ := h
  rw [hst] at hs; cases hs
  obtain ⟨cs, rfl, hcs⟩ := fits_agg hfit
  exact ⟨cs, rfl, hcs, fun j x c => H j x c⟩
end
end Go.Ab
end
section
namespace Go.Ab
theorem len8 {α : Type} {l : List α} (h : l.length = 8) : ∃ a b c d e f g i, l = [a, b, c, d, e, f, g, i] := by
 match l, h with
 | [a, b, c, d, e, f, g, i], _ => exact ⟨a, b, c, d, e, f, g, i, rfl⟩
section
variable {P : Program} {D B : Nat} {t ts : Nat} (hB : B ≤ 134217728) (hft : flat P D t = [.int .i64, .int .i64, .int .i64, .int .i64, .int .i64, .str, .sl t, .sl ts]) (hfs : flat P D ts = [.str]) (hst : szOf P t = some (8, true)) (hss : szOf P ts = some (1, false)) (hb : P.bytesOf t = 104) (hbs : P.bytesOf ts = 16)
include hB hft hfs hst hss hb hbs
theorem nd_eight {a b c d e s f g : FV} (h0 : WC P D B (.int .i64) a) (h1 : WC P D B (.int .i64) b) (h2 : WC P D B (.int .i64) c) (h3 : WC P D B (.int .i64) d) (h4 : WC P D B (.int .i64) e) (h5 : WC P D B .str s) (h6 : ∃ l : List ND, f = .sl (l.map ND.enc) ∧ (∀ v ∈ l, v.Sm) ∧ l.length * 104 ≤ B) (h7 : WC P D B (.sl ts) g) :
   ∃ v : ND, FV.ag [a, b, c, d, e, s, f, g] = v.enc ∧ v.Sm := by
 obtain ⟨a, rfl, _⟩ := wc_int h0
 obtain ⟨b, rfl, _⟩ := wc_int h1
 obtain ⟨c, rfl, _⟩ := wc_int h2
 obtain ⟨d, rfl, _⟩ := wc_int h3
 obtain ⟨e, rfl, _⟩ := wc_int h4
 obtain ⟨tt, rfl, wt⟩ := wc_str h5
 obtain ⟨l, rfl, hl, hb'⟩ := h6
 obtain ⟨m, rfl, hm, hbm⟩ := wc_strs hfs hss h7
 rw [hbs] at hbm
 exact ⟨.mk a b c d e tt l m, (ND.enc_mk ..).symm, .mk (by omega) (by omega) (by omega) (fun s h => by have := hm s h; omega) hl⟩
theorem nds_of {c : CT} {f : FV} (h : WC P D B c f) : c = .sl t → ∃ l : List ND, f = .sl (l.map ND.enc) ∧ (∀ v ∈ l, v.Sm) ∧ l.length * 104 ≤ B := by
 induction h with
 | int k n h => intro e; cases e
 | bool b => intro e; cases e
 | str s h => intro e; cases e
 | sl e es hl hb' hf h ih =>
  intro he
  cases he
  obtain ⟨m, rfl, hm⟩ := choose_list (f := ND.enc) (p := ND.Sm) (l := es) fun x hx => by
   obtain ⟨n, agg, hs, hfit⟩ := hf x hx
   rw [hst] at hs; cases hs
   obtain ⟨cs, rfl, hcs⟩ := fits_agg hfit
   obtain ⟨c0, c1, c2, c3, c4, c5, c6, c7, rfl⟩ := len8 hcs
   have H := fun j y c => h _ hx j y c
   have I := fun j y c => ih _ hx j y c
   simp only [FV.cells, hft] at H I
   exact nd_eight hB hft hfs hst hss hb hbs (H 0 c0 _ rfl rfl) (H 1 c1 _ rfl rfl) (H 2 c2 _ rfl rfl) (H 3 c3 _ rfl rfl) (H 4 c4 _ rfl rfl) (H 5 c5 _ rfl rfl) (I 6 c6 _ rfl rfl rfl) (H 7 c7 _ rfl rfl)
  exact ⟨m, rfl, hm, by rw [hb] at hb'; simpa using hb'⟩
end
end Go.Ab
end
section
namespace Go.Ab
structure LatN (e : FV) (t9 : List FV) (nm : List ByteArray) (L : Lt) : Prop where
  lat : IsLat e L
  tab : IsTab t9 L
  n : L.n = nm.length
  ok : NmOk nm
  inj : ∀ i j : Nat, i < nm.length → j < nm.length → nm.getD i ⟨#[]⟩ = nm.getD j ⟨#[]⟩ → i = j
  text : ∀ j : Nat, j < L.n → Rt0 N_level_Lattice_Text [.fz (.pt 195 true e 0), .fz (.int .i64 j)] = some ([.fz (.str (nm.getD j ⟨#[]⟩))], [])
theorem latN_of {P : Pol} (hP : P.ok = true) (hN : nmsB P.names = true) : LatN (latR P.names P.g) (tabL P.names.length (rowOf P.names.length P.pairs) P.names.length) P.names (ltR P.names.length P.g) := by
 unfold nmsB at hN
 rw [Bool.and_eq_true] at hN
 refine ⟨Pol.lat hP, Pol.tab hP, rfl, ?_, fun i j hi hj e => ?_, fun j hj => ?_⟩
 ·intro s hs
  have := List.all_eq_true.1 hN.1 s hs
  simpa using this
 ·have h1 := List.all_eq_true.1 hN.2 i (List.mem_range.2 hi)
  have h2 := List.all_eq_true.1 h1 j (List.mem_range.2 hj)
  rw [e] at h2
  simpa using h2
 ·have h := lat_Text (Pol.nice hP) j
  have hj' : j < P.names.length := hj
  rw [if_pos ⟨by omega, by omega⟩, Int.toNat_natCast] at h
  exact h
theorem of12_ok (k : Int) : ∃ e t9 nm L, LatN e t9 nm L ∧ Rt N_law12_of [.fz (.int .i64 k)] = some ([.fz (.pt 195 true e 0), .fz (.sl t9), .fz (.sl (nm.map .str))], []) := by
 obtain ⟨P, hP, hN, h⟩ := of_ok k
 exact ⟨_, _, _, _, latN_of hP hN, lift h⟩
def shown (nm : List ByteArray) (L : Lt) (a : Int) (v : ND) : List UInt8 := shT nm L.bot (und L a L.bot v)
section
variable {e : FV} {t9 : List FV} {nm : List ByteArray} {L : Lt} (N : LatN e t9 nm L)
include N
theorem shown_len {v : ND} (hv : v.Sm) (hm : mayB L v = true) (hc : v.cnt ≤ 10000) (a : Int) : (shown nm L a v).length ≤ 50000000000000 := by
 have hT := tok_of N.ok N.lat N.n N.text (most := 0) (by omega) (by omega) hv hm
 have hU := tok_und N.ok N.lat N.n N.text (most := 0) (by omega) (by omega) a hv hT L.bot
 have := sh_len N.ok (und_sm (L := L) (a := a) hv L.bot) hU L.bot
 have := und_cnt L a v L.bot
 unfold shown
 omega
theorem shown_pos {v : ND} (hv : v.Sm) (hm : mayB L v = true) (a : Int) : 1 ≤ (shown nm L a v).length := by
 have hT := tok_of N.ok N.lat N.n N.text (most := 0) (by omega) (by omega) hv hm
 exact sh_pos (tok_und N.ok N.lat N.n N.text (most := 0) (by omega) (by omega) a hv hT L.bot) L.bot
theorem show_ok {v : ND} (hv : v.Sm) (hm : mayB L v = true) (hc : v.cnt ≤ 10000) (a most : Int) (hm0 : -9223372036854775808 ≤ most) (hm1 : most ≤ 9223372036854775807) :
   Rt N_show_Text [.fz (.pt 195 true e 0), .fz v.enc, .fz (.int .i64 a), .fz (.int .i64 most)] = some (if ((shown nm L a v).length : Int) ≤ most then ([.fz (.str (qB (shown nm L a v))), .fz (.bool true)], []) else ([.fz (.str ⟨#[]⟩), .fz (.bool false)], [])) := by
 have hl := shown_len N hv hm hc a
 have hp := shown_pos N hv hm a
 obtain ⟨st', h1, h2⟩ := node_show N.ok N.lat N.n N.text hm0 hm1 a hv hm 100000 (by omega) L.bot ([], false) 0 (fun _ => ⟨.inl rfl, by simp only [List.length_nil]; unfold shown at hl; omega⟩)
 have hw := h2.wr (ne_of_len hp)
 have hb := qInt_of (f := 16) (fs := [.pt 195 true e 0]) (lift01 (lat_Bottom N.lat))
 have hnode : isNode v.enc = true := by
   obtain ⟨b1, b2, b3, b4, b5, b6, b7, b8⟩ := v
   rw [ND.enc_mk]; rfl
 refine rt_prim (af := A_show) (p := showP) rfl rfl ?_
 unfold showP
 simp only [showS]
 rw [if_neg (by rw [hnode]; simp [FV.isPt]), hb, Option.bind_some, h1, Option.bind_some]
 by_cases hf : ((shown nm L a v).length : Int) ≤ most
 · have := hw.fits rfl (by simp only [List.length_nil]; unfold shown at hf; omega)
   subst this
   rw [if_neg (by simp), if_pos hf, List.nil_append]
   rfl
 · have := hw.over rfl (by simp only [List.length_nil]; unfold shown at hf; omega)
   rw [if_pos this, if_neg hf]
theorem rshow_ok {v : ND} (hv : v.Sm) (hm : mayB L v = true) (hc : v.cnt ≤ 10000) (a : Int) : Rt N_ref12_Text [.fz (.sl t9), .fz (.sl (nm.map .str)), .fz v.enc, .fz (.int .i64 a)] = some ([.fz (.str (qB (shown nm L a v)))], []) := by
 have hT := tok_of N.ok N.lat N.n N.text (most := 0) (by omega) (by omega) hv hm
 have hU := tok_und N.ok N.lat N.n N.text (most := 0) (by omega) (by omega) a hv hT L.bot
 have hcu := und_cnt L a v L.bot
 have hlab : labB L v = true := by
  simp only [mayB, Bool.and_eq_true] at hm
  exact hm.1
 have h1 := erase_ok N.tab N.lat.ok a hv hlab
 have h2 := bottom9_ok N.tab N.lat.ok
 have h3 := rtext12 N.ok (und_sm (L := L) (a := a) hv L.bot) hU (by omega) L.bot
 refine lift ?_
 obtain ⟨x, d, k, c, s, t, is, ks⟩ := v
 have hE := E_ref12_Text Rt0 0 true t9 (nm.map .str) x d k c s t (is.map ND.enc) (ks.map .str) a
 rw [← ND.enc_mk] at hE
 refine rt_call0 A_ref12_Text rfl rfl 0 (hE.trans ?_)
 simp only [h1, h2, h3, onR_some, onL_some, List.isEmpty_nil, allF_cons, allF_nil, Bool.and_true, Bool.true_and, when_true', List.getD_cons_zero, List.getD_cons_succ, isF_fz, toF_fz, isBool_bool, toBool_bool, isInt_int, toInt_int, isStr_str, toStr_str, isSl_sl, toSl_sl, List.length_cons, List.length_nil, List.all_cons, List.all_nil, lisFz_fz, ltoFz_fz, beq_self_eq_true, jump_true, ifB_true, ifB_false, isF_pv, isPv_pv, toV_pv, isNil_nilp, isNil_pt, isPt_pt, toAg_ag, cell_ag, isAg_ag, fits_ag, Int.toNat_natCast, Bool.not_true, Bool.not_false, fits_int, fits_bool, fits_str, fits_sl]
 rfl
theorem light1_ok {v : ND} (hv : v.Sm) : ∃ b : Bool, Rt N_law12_light [.fz (.sl t9), .fz v.enc] = some ([.fz (.bool b)], []) ∧ (b = true → v.cnt ≤ 200 ∧ mayB L v = true) := by
 obtain ⟨b1, h1, c1⟩ := nlight_ok hv 200 (by omega) (by omega)
 have i1 := nis9_ok N.tab N.lat.ok hv
 have e9 : (labB L v && (rightB L v && shapeB (strip v))) = mayB L v := rfl
 rw [e9] at i1
 obtain ⟨a, d, k, c, s, t, is, ks⟩ := v
 have hE := E_law12_light Rt0 0 true t9 a d k c s t (is.map ND.enc) (ks.map .str)
 rw [← ND.enc_mk, h1, i1] at hE
 cases b1 with
 | false => exact ⟨false, lift (rt_call0 A_law12_light rfl rfl 0 (hE.trans (by simp only [onR_some, onL_some, List.isEmpty_nil, allF_cons, allF_nil, Bool.and_true, Bool.true_and, when_true', List.getD_cons_zero, List.getD_cons_succ, isF_fz, toF_fz, isBool_bool, toBool_bool, isInt_int, toInt_int, isStr_str, toStr_str, isSl_sl, toSl_sl, List.length_cons, List.length_nil, List.all_cons, List.all_nil, lisFz_fz, ltoFz_fz, beq_self_eq_true, jump_true, ifB_true, ifB_false, isF_pv, isPv_pv, toV_pv, isNil_nilp, isNil_pt, isPt_pt, toAg_ag, cell_ag, isAg_ag, fits_ag, Int.toNat_natCast, Bool.not_true, Bool.not_false, fits_int, fits_bool, fits_str, fits_sl]))), fun h => by cases h⟩
 | true =>
  refine ⟨mayB L (ND.mk a d k c s t is ks), lift (rt_call0 A_law12_light rfl rfl 0 (hE.trans (by simp only [onR_some, onL_some, List.isEmpty_nil, allF_cons, allF_nil, Bool.and_true, Bool.true_and, when_true', List.getD_cons_zero, List.getD_cons_succ, isF_fz, toF_fz, isBool_bool, toBool_bool, isInt_int, toInt_int, isStr_str, toStr_str, isSl_sl, toSl_sl, List.length_cons, List.length_nil, List.all_cons, List.all_nil, lisFz_fz, ltoFz_fz, beq_self_eq_true, jump_true, ifB_true, ifB_false, isF_pv, isPv_pv, toV_pv, isNil_nilp, isNil_pt, isPt_pt, toAg_ag, cell_ag, isAg_ag, fits_ag, Int.toNat_natCast, Bool.not_true, Bool.not_false, fits_int, fits_bool, fits_str, fits_sl]))), fun h => ?_⟩
  have := c1 rfl
  exact ⟨by omega, h⟩
end
theorem lives12_ok : Rt N_law12_lives [] = some ([.fz (.bool true)], []) := by
 have h0 := lift (Pol.new pol0_ok)
 have hs : Rt N_ref01_Sort [.fz (.int .i64 0)] = some ([.fz pol0.e], []) := lift (rt_call0 A_ref01_Sort rfl rfl 0 (by rw [E_ref01_Sort]; rfl))
 have N := latN_of pol0_ok (by decide +kernel)
 let v : ND := .mk 0 1 5 0 0 ⟨#[]⟩ [.mk 0 0 3 1 0 ⟨#[]⟩ [] [], .mk 1 1 3 2 0 ⟨#[]⟩ [] []] []
 have hv : v.Sm := by
  refine .mk (by decide) (by decide) (by decide) (fun s h => by cases h) (fun y hy => ?_)
  simp only [List.mem_cons, List.not_mem_nil, or_false] at hy
  rcases hy with rfl | rfl <;> exact .mk (by decide) (by decide) (by decide) (fun s h => by cases h) (fun y hy => by cases hy)
 have hm : mayB (ltR pol0.names.length pol0.g) v = true := by decide +kernel
 have s0 := show_ok N hv hm (by decide +kernel) 0 99 (by omega) (by omega)
 have s1 := show_ok N hv hm (by decide +kernel) 1 99 (by omega) (by omega)
 have t0 : shown pol0.names (ltR pol0.names.length pol0.g) 0 v = [91, 49, 44, 123, 34, 35, 34, 58, 110, 117, 108, 108, 125, 93] := by decide +kernel
 have t1 : shown pol0.names (ltR pol0.names.length pol0.g) 1 v = [91, 49, 44, 123, 34, 35, 34, 58, 34, 104, 105, 103, 104, 34, 44, 34, 61, 34, 58, 50, 125, 93] := by decide +kernel
 rw [t0, if_pos (by decide)] at s0
 rw [t1, if_pos (by decide)] at s1
 have ev : FV.ag [.int .i64 0, .int .i64 1, .int .i64 5, .int .i64 0, .int .i64 0, .str ⟨#[]⟩, .sl [.ag [.int .i64 0, .int .i64 0, .int .i64 3, .int .i64 1, .int .i64 0, .str ⟨#[]⟩, .sl [], .sl []], .ag [.int .i64 1, .int .i64 1, .int .i64 3, .int .i64 2, .int .i64 0, .str ⟨#[]⟩, .sl [], .sl []]], .sl []] = v.enc := rfl
 refine rt_call A_law12_lives rfl rfl 0 ((E_law12_lives Rt 0 true).trans ?_)
 simp only [hs, h0, ev, s0, s1, onR_some, onL_some, List.isEmpty_nil, allF_cons, allF_nil, Bool.and_true, Bool.true_and, when_true', List.getD_cons_zero, List.getD_cons_succ, isF_fz, toF_fz, isBool_bool, toBool_bool, isInt_int, toInt_int, isStr_str, toStr_str, isSl_sl, toSl_sl, List.length_cons, List.length_nil, List.all_cons, List.all_nil, lisFz_fz, ltoFz_fz, beq_self_eq_true, jump_true, ifB_true, ifB_false, isF_pv, isPv_pv, toV_pv, isNil_nilp, isNil_pt, isPt_pt, toAg_ag, cell_ag, isAg_ag, fits_ag, Int.toNat_natCast, Bool.not_true, Bool.not_false, fits_int, fits_bool, fits_str, fits_sl, bytes_beq]
 rw [show (⟨#[91, 49, 44, 123, 34, 35, 34, 58, 110, 117, 108, 108, 125, 93]⟩ : ByteArray) = qB [91, 49, 44, 123, 34, 35, 34, 58, 110, 117, 108, 108, 125, 93] from rfl, show (⟨#[91, 49, 44, 123, 34, 35, 34, 58, 34, 104, 105, 103, 104, 34, 44, 34, 61, 34, 58, 50, 125, 93]⟩ : ByteArray) = qB [91, 49, 44, 123, 34, 35, 34, 58, 34, 104, 105, 103, 104, 34, 44, 34, 61, 34, 58, 50, 125, 93] from rfl, decide_eq_true rfl, decide_eq_true rfl, ifB_true]
end Go.Ab
end
section
namespace Go.Ab
theorem of_B {e : Int} (h0 : 0 ≤ e) (h1 : e ≤ 255) : (UInt8.ofNat e.toNat).toNat = e.toNat := UInt8.toNat_ofNat_of_lt' (show e.toNat < 256 by omega)
theorem sgn_put {c : Int} (h0 : 0 ≤ c) (h1 : c ≤ 1114111) (h2 : ¬ (55296 ≤ c ∧ c < 57344)) (r : List UInt8) : sgn (toB (putB c) ++ r) = some (c, (toB (putB c)).length) := by
 have hput : toB (putB c) = toB (putB c) := rfl
 have go : ∀ (b : UInt8) (q : List UInt8) (N : Nat), toB (putB c) = b :: q → headN b.toNat = N → b.toNat < 248 → ¬ (128 ≤ b.toNat ∧ b.toNat < 192) → q.length + 1 = N → cont (N - 1) (headC b.toNat) (q ++ r) = some c → sgn (toB (putB c) ++ r) = some (c, (toB (putB c)).length) := by
  intro b q N e1 e2 e3 e4 e5 e6
  rw [e1, List.cons_append]
  simp only [sgn]
  rw [if_neg (by rw [e2, List.length_append]; omega), e2, e6]
  simp only
  rw [if_neg]
  ·rw [← e5]; rfl
  ·rintro (h | h | h)
   ·omega
   ·exact h2 h
   ·apply h
    rw [e1, ← e5, ← List.cons_append]
    exact (List.take_left' (by simp)).symm
 have hN : ∀ b : Nat, headN b = if 240 ≤ b ∧ b < 248 then 4 else if 224 ≤ b then 3 else if 192 ≤ b then 2 else 1 := fun _ => rfl
 have hC : ∀ b : Nat, headC b = if 240 ≤ b ∧ b < 248 then (b : Int) - 240 else if 224 ≤ b then (b : Int) - 224 else if 192 ≤ b then (b : Int) - 192 else b := fun _ => rfl
 have hp : putB c = if c < 128 then [c] else if c < 2048 then [192 + c / 64, 128 + c % 64] else if c < 65536 then [224 + c / 4096, 128 + c / 64 % 64, 128 + c % 64] else [240 + c / 262144, 128 + c / 4096 % 64, 128 + c / 64 % 64, 128 + c % 64] := rfl
 by_cases g1 : c < 128
 ·rw [if_pos g1] at hp
  have b1 := of_B (e := c) (by omega) (by omega)
  refine go (UInt8.ofNat c.toNat) [] 1 (by rw [hp]; rfl) ?_ ?_ ?_ rfl ?_
  ·rw [b1, hN, if_neg (by omega), if_neg (by omega), if_neg (by omega)]
  ·rw [b1]; omega
  ·rw [b1]; omega
  ·rw [b1, hC, if_neg (by omega), if_neg (by omega), if_neg (by omega)]
   show some ((c.toNat : Nat) : Int) = some c
   rw [Int.toNat_of_nonneg h0]
 ·rw [if_neg g1] at hp
  by_cases g2 : c < 2048
  ·rw [if_pos g2] at hp
   have b1 := of_B (e := 192 + c / 64) (by omega) (by omega)
   have b2 := of_B (e := 128 + c % 64) (by omega) (by omega)
   refine go (UInt8.ofNat (192 + c / 64).toNat) [UInt8.ofNat (128 + c % 64).toNat] 2 (by rw [hp]; rfl) ?_ ?_ ?_ rfl ?_
   ·rw [b1, hN, if_neg (by omega), if_neg (by omega), if_pos (by omega)]
   ·rw [b1]; omega
   ·rw [b1]; omega
   ·rw [b1, hC, if_neg (by omega), if_neg (by omega), if_pos (by omega)]
    simp only [List.cons_append, cont, Nat.reduceSub]
    rw [b2, if_pos (by omega)]
    simp only [cont, Option.some.injEq]
    omega
  ·rw [if_neg g2] at hp
   by_cases g3 : c < 65536
   ·rw [if_pos g3] at hp
    have b1 := of_B (e := 224 + c / 4096) (by omega) (by omega)
    have b2 := of_B (e := 128 + c / 64 % 64) (by omega) (by omega)
    have b3 := of_B (e := 128 + c % 64) (by omega) (by omega)
    refine go (UInt8.ofNat (224 + c / 4096).toNat) [UInt8.ofNat (128 + c / 64 % 64).toNat, UInt8.ofNat (128 + c % 64).toNat] 3 (by rw [hp]; rfl) ?_ ?_ ?_ rfl ?_
    ·rw [b1, hN, if_neg (by omega), if_pos (by omega)]
    ·rw [b1]; omega
    ·rw [b1]; omega
    ·rw [b1, hC, if_neg (by omega), if_pos (by omega)]
     simp only [List.cons_append, cont, Nat.reduceSub]
     rw [b2, if_pos (by omega), b3, if_pos (by omega)]
     simp only [Option.some.injEq]
     omega
   ·rw [if_neg g3] at hp
    have b1 := of_B (e := 240 + c / 262144) (by omega) (by omega)
    have b2 := of_B (e := 128 + c / 4096 % 64) (by omega) (by omega)
    have b3 := of_B (e := 128 + c / 64 % 64) (by omega) (by omega)
    have b4 := of_B (e := 128 + c % 64) (by omega) (by omega)
    refine go (UInt8.ofNat (240 + c / 262144).toNat) [UInt8.ofNat (128 + c / 4096 % 64).toNat, UInt8.ofNat (128 + c / 64 % 64).toNat, UInt8.ofNat (128 + c % 64).toNat] 4 (by rw [hp]; rfl) ?_ ?_ ?_ rfl ?_
    ·rw [b1, hN, if_pos (by omega)]
    ·rw [b1]; omega
    ·rw [b1]; omega
    ·rw [b1, hC, if_pos (by omega)]
     simp only [List.cons_append, cont, Nat.reduceSub]
     rw [b2, if_pos (by omega), b3, if_pos (by omega), b4, if_pos (by omega)]
     simp only [Option.some.injEq]
     omega
end Go.Ab
end
section
namespace Go.Ab
def dig (b : UInt8) : Bool := decide (48 ≤ b.toNat) && decide (b.toNat ≤ 57)
def stopD (r : List UInt8) : Prop := ∀ b t, r = b :: t → dig b = false
theorem span_eq : ∀ {x y u w : List UInt8}, x.all dig = true → y.all dig = true → stopD u → stopD w → x ++ u = y ++ w → x = y ∧ u = w
 | [], [], u, w, _, _, _, _, h => ⟨rfl, h⟩
 | [], b :: y, u, w, _, hy, hu, _, h => by
  simp only [List.all_cons, Bool.and_eq_true] at hy
  have := hu b _ h
  rw [hy.1] at this; cases this
 | b :: x, [], u, w, hx, _, _, hw, h => by
  simp only [List.all_cons, Bool.and_eq_true] at hx
  have := hw b _ h.symm
  rw [hx.1] at this; cases this
 | a :: x, b :: y, u, w, hx, hy, hu, hw, h => by
  simp only [List.all_cons, Bool.and_eq_true] at hx hy
  simp only [List.cons_append, List.cons.injEq] at h
  obtain ⟨e1, e2⟩ := span_eq hx.2 hy.2 hu hw h.2
  exact ⟨by rw [h.1, e1], e2⟩
def valD (l : List UInt8) : Nat := l.foldl (fun a b => 10 * a + (b.toNat - 48)) 0
theorem valD_snoc (l : List UInt8) (b : UInt8) : valD (l ++ [b]) = 10 * valD l + (b.toNat - 48) := by simp [valD]
theorem dc_nat (n : Nat) : (dc n).toNat = 48 + n % 10 := by
 unfold dc
 exact UInt8.toNat_ofNat_of_lt' (by have : n % 10 < 10 := Nat.mod_lt _ (by omega); show 48 + n % 10 < 256; omega)
theorem dc_dig (n : Nat) : dig (dc n) = true := by
 have : n % 10 < 10 := Nat.mod_lt _ (by omega)
 unfold dig
 rw [dc_nat]
 simp only [Bool.and_eq_true, decide_eq_true_eq]
 omega
theorem dg_dig : ∀ n, (dg n).all dig = true := by
 intro n
 induction n using Nat.strongRecOn with
 | ind n ih =>
  rw [dg]
  split
  ·simp [dc_dig]
  ·rw [List.all_append, ih _ (by omega)]; simp [dc_dig]
theorem pd_dig : ∀ k n, (pd k n).all dig = true
 | 0, _ => rfl
 | k + 1, n => by rw [pd, List.all_append, pd_dig k]; simp [dc_dig]
theorem dg_val : ∀ n, valD (dg n) = n := by
 intro n
 induction n using Nat.strongRecOn with
 | ind n ih =>
  rw [dg]
  split
  ·simp only [valD, List.foldl_cons, List.foldl_nil, dc_nat]; omega
  ·rw [valD_snoc, ih _ (by omega), dc_nat]; omega
theorem pd_val : ∀ k n, valD (pd k n) = n % 10 ^ k
 | 0, n => by simp [pd, valD, Nat.mod_one]
 | k + 1, n => by
  rw [pd, valD_snoc, pd_val k, dc_nat, Nat.pow_succ']
  have := Nat.mod_mul (a := 10) (b := 10 ^ k) (x := n)
  rw [this]
  omega
theorem stop46 (l : List UInt8) : stopD (46 :: l) := fun b t h => by
 simp only [List.cons.injEq] at h
 rw [← h.1]; rfl
theorem nBody_inj {a s b u : Nat} {r w : List UInt8} (hr : stopD r) (hr2 : ∀ t, r ≠ 46 :: t) (hw : stopD w) (hw2 : ∀ t, w ≠ 46 :: t) (h : nBody a s ++ r = nBody b u ++ w) : a = b ∧ s = u ∧ r = w := by
 unfold nBody at h
 rw [List.append_assoc, List.append_assoc] at h
 have s1 : ∀ (k n : Nat) (l : List UInt8), stopD l → stopD ((if k = 0 then [] else 46 :: pd k n) ++ l) := fun k n l hl => by
  split
  ·exact hl
  ·exact stop46 _
 obtain ⟨e1, e2⟩ := span_eq (dg_dig _) (dg_dig _) (s1 s a r hr) (s1 u b w hw) h
 have v1 : a / 10 ^ s = b / 10 ^ u := by rw [← dg_val (a / 10 ^ s), e1, dg_val]
 by_cases hs : s = 0
 ·by_cases hu : u = 0
  ·subst hs; subst hu
   simp only [if_true, List.nil_append] at e2
   simp only [Nat.pow_zero, Nat.div_one] at v1
   exact ⟨v1, rfl, e2⟩
  ·rw [if_pos hs, if_neg hu, List.nil_append] at e2
   exact absurd e2 (hr2 _)
 ·by_cases hu : u = 0
  ·rw [if_neg hs, if_pos hu, List.nil_append] at e2
   exact absurd e2.symm (hw2 _)
  ·rw [if_neg hs, if_neg hu, List.cons_append, List.cons_append, List.cons.injEq] at e2
   obtain ⟨e3, e4⟩ := span_eq (pd_dig _ _) (pd_dig _ _) hr hw e2.2
   have hl := congrArg List.length e3
   rw [pd_len, pd_len] at hl
   subst hl
   have v2 : a % 10 ^ s = b % 10 ^ s := by rw [← pd_val, e3, pd_val]
   refine ⟨?_, rfl, e4⟩
   rw [← Nat.div_add_mod a (10 ^ s), ← Nat.div_add_mod b (10 ^ s), v1, v2]
theorem dg_head (n : Nat) : ∃ b t, dg n = b :: t ∧ dig b = true := by
 have h := dg_dig n
 have hp := dg_len_pos n
 cases hd : dg n with
 | nil => rw [hd] at hp; simp at hp
 | cons b t =>
  rw [hd] at h
  simp only [List.all_cons, Bool.and_eq_true] at h
  exact ⟨b, t, rfl, h.1⟩
theorem numT_head (c s : Int) : ∃ b t, numT c s = b :: t ∧ (b = 45 ∨ dig b = true) := by
 unfold numT nBody
 obtain ⟨b, t, h1, h2⟩ := dg_head (c.natAbs / 10 ^ s.toNat)
 split
 ·exact ⟨45, _, rfl, .inl rfl⟩
 ·rw [h1]
  exact ⟨b, _, rfl, .inr h2⟩
theorem numT_inj {c s d u : Int} {r w : List UInt8} (h1 : num4B c s = true) (h2 : num4B d u = true) (hr : stopD r) (hr2 : ∀ t, r ≠ 46 :: t) (hw : stopD w) (hw2 : ∀ t, w ≠ 46 :: t) (h : numT c s ++ r = numT d u ++ w) : c = d ∧ s = u ∧ r = w := by
 obtain ⟨f1, f2, _, _⟩ := num4_facts h1
 obtain ⟨g1, g2, _, _⟩ := num4_facts h2
 have key : ∀ a n : Nat, ∃ b t, nBody a n = b :: t ∧ b ≠ 45 := fun a n => by
  obtain ⟨b, t, e1, e2⟩ := dg_head (a / 10 ^ n)
  unfold nBody
  rw [e1]
  exact ⟨b, _, rfl, fun e => by subst e; cases e2⟩
 unfold numT at h
 by_cases hc : c < 0
 ·by_cases hd : d < 0
  ·rw [if_pos hc, if_pos hd] at h
   simp only [List.cons_append, List.nil_append, List.cons.injEq, true_and] at h
   obtain ⟨e1, e2, e3⟩ := nBody_inj hr hr2 hw hw2 h
   exact ⟨by omega, by omega, e3⟩
  ·rw [if_pos hc, if_neg hd] at h
   obtain ⟨b, t, e1, e2⟩ := key d.natAbs u.toNat
   rw [e1] at h
   simp only [List.cons_append, List.nil_append, List.cons.injEq] at h
   exact absurd h.1.symm e2
 ·by_cases hd : d < 0
  ·rw [if_neg hc, if_pos hd] at h
   obtain ⟨b, t, e1, e2⟩ := key c.natAbs s.toNat
   rw [e1] at h
   simp only [List.cons_append, List.nil_append, List.cons.injEq] at h
   exact absurd h.1 e2
  ·rw [if_neg hc, if_neg hd] at h
   simp only [List.nil_append] at h
   obtain ⟨e1, e2, e3⟩ := nBody_inj hr hr2 hw hw2 h
   exact ⟨by omega, by omega, e3⟩
def fineC (c : Int) : Prop := 0 ≤ c ∧ c ≤ 1114111 ∧ ¬ (55296 ≤ c ∧ c < 57344)
theorem plain_quote {c : Int} (hf : fineC c) (h : ¬ c < 32) (h1 : c ≠ 34) (h2 : c ≠ 92) : quoteB c = toB (putB c) := by
 obtain ⟨f0, f1, f2⟩ := hf
 unfold quoteB
 rw [if_neg h1, if_neg h2, if_neg (by omega), if_neg (by omega), if_neg (by omega), if_neg (by omega), if_neg (by omega), if_neg h, enc_put f0 f1 f2]
theorem toB_head {c : Int} (hf : fineC c) : ∃ b t, toB (putB c) = b :: t ∧ b.toNat = (if c < 128 then c.toNat else if c < 2048 then 192 + (c / 64).toNat else if c < 65536 then 224 + (c / 4096).toNat else 240 + (c / 262144).toNat) := by
 obtain ⟨f0, f1, f2⟩ := hf
 unfold putB toB
 split
 ·exact ⟨_, _, rfl, by rw [of_B f0 (by omega)]⟩
 split
 ·exact ⟨_, _, rfl, by rw [of_B (by omega) (by omega)]; omega⟩
 split
 ·exact ⟨_, _, rfl, by rw [of_B (by omega) (by omega)]; omega⟩
 ·exact ⟨_, _, rfl, by rw [of_B (by omega) (by omega)]; omega⟩
theorem esc_cases {c : Int} (hf : fineC c) (h : c < 32 ∨ c = 34 ∨ c = 92) : c = 0 ∨ c = 1 ∨ c = 2 ∨ c = 3 ∨ c = 4 ∨ c = 5 ∨ c = 6 ∨ c = 7 ∨ c = 8 ∨ c = 9 ∨ c = 10 ∨ c = 11 ∨ c = 12 ∨ c = 13 ∨ c = 14 ∨ c = 15 ∨ c = 16 ∨ c = 17 ∨ c = 18 ∨ c = 19 ∨ c = 20 ∨ c = 21 ∨ c = 22 ∨ c = 23 ∨ c = 24 ∨ c = 25 ∨ c = 26 ∨ c = 27 ∨ c = 28 ∨ c = 29 ∨ c = 30 ∨ c = 31 ∨ c = 34 ∨ c = 92 := by
  have := hf.1
  omega
def unesc (l : List UInt8) : Option (Int × Nat) := match l with
  | 92 :: 34 :: _ => some (34, 2)
  | 92 :: 92 :: _ => some (92, 2)
  | 92 :: 98 :: _ => some (8, 2)
  | 92 :: 116 :: _ => some (9, 2)
  | 92 :: 110 :: _ => some (10, 2)
  | 92 :: 102 :: _ => some (12, 2)
  | 92 :: 114 :: _ => some (13, 2)
  | 92 :: 117 :: 48 :: 48 :: a :: b :: _ => some ((if a = 49 then 16 else 0) + (if b.toNat < 60 then (b.toNat : Int) - 48 else (b.toNat : Int) - 87), 6)
  | _ => none
def rdQ (l : List UInt8) : Option (Int × Nat) := match l with
  | 92 :: r => unesc (92 :: r)
  | l => sgn l
theorem rdQ_quote {c : Int} (hf : fineC c) (r : List UInt8) : rdQ (quoteB c ++ r) = some (c, (quoteB c).length) := by
 by_cases h : c < 32 ∨ c = 34 ∨ c = 92
 ·rcases esc_cases hf h with h | h | h | h | h | h | h | h | h | h | h | h | h | h | h | h | h | h | h | h | h | h | h | h | h | h | h | h | h | h | h | h | h | h <;> (subst h; rfl)
 ·have hq := plain_quote hf (by omega) (by omega) (by omega)
  obtain ⟨b, t, e1, e2⟩ := toB_head hf
  have hs := sgn_put hf.1 hf.2.1 hf.2.2 r
  rw [hq]
  have hb : b ≠ 92 := by
   intro e
   have hz := hf.1
   rw [e, show (92 : UInt8).toNat = 92 from rfl] at e2
   repeat' split at e2
   all_goals omega
  rw [e1] at hs ⊢
  rw [List.cons_append] at hs ⊢
  have : rdQ (b :: (t ++ r)) = sgn (b :: (t ++ r)) := by
   unfold rdQ
   split
   ·rename_i heq
    simp only [List.cons.injEq] at heq
    exact absurd heq.1 hb
   ·rfl
  rw [this, hs]
theorem quote_head {c : Int} (hf : fineC c) : ∃ b t, quoteB c = b :: t ∧ b ≠ 34 ∧ (b = 35 → c = 35) := by
 by_cases h : c < 32 ∨ c = 34 ∨ c = 92
 ·rcases esc_cases hf h with h | h | h | h | h | h | h | h | h | h | h | h | h | h | h | h | h | h | h | h | h | h | h | h | h | h | h | h | h | h | h | h | h | h <;> (subst h; exact ⟨92, _, rfl, by decide, fun e => absurd e (by decide)⟩)
 ·have hq := plain_quote hf (by omega) (by omega) (by omega)
  obtain ⟨b, t, e1, e2⟩ := toB_head hf
  have hz := hf.1
  refine ⟨b, t, by rw [hq, e1], fun e => ?_, fun e => ?_⟩
  ·rw [e, show (34 : UInt8).toNat = 34 from rfl] at e2
   repeat' split at e2
   all_goals omega
  ·rw [e, show (35 : UInt8).toNat = 35 from rfl] at e2
   repeat' split at e2
   all_goals omega
theorem quotes_inj : ∀ {l m : List Int} {r w : List UInt8}, (∀ c ∈ l, fineC c) → (∀ c ∈ m, fineC c) → l.flatMap quoteB ++ 34 :: r = m.flatMap quoteB ++ 34 :: w → l = m ∧ r = w
 | [], [], r, w, _, _, h => ⟨rfl, by simpa using h⟩
 | [], c :: m, r, w, _, hm, h => by
  obtain ⟨b, t, e1, e2, _⟩ := quote_head (hm c (List.mem_cons_self ..))
  simp only [List.flatMap_nil, List.nil_append, List.flatMap_cons, e1, List.cons_append, List.cons.injEq] at h
  exact absurd h.1.symm e2
 | c :: l, [], r, w, hl, _, h => by
  obtain ⟨b, t, e1, e2, _⟩ := quote_head (hl c (List.mem_cons_self ..))
  simp only [List.flatMap_nil, List.nil_append, List.flatMap_cons, e1, List.cons_append, List.cons.injEq] at h
  exact absurd h.1 e2
 | c :: l, d :: m, r, w, hl, hm, h => by
  simp only [List.flatMap_cons, List.append_assoc] at h
  have q1 := rdQ_quote (hl c (List.mem_cons_self ..)) (l.flatMap quoteB ++ 34 :: r)
  have q2 := rdQ_quote (hm d (List.mem_cons_self ..)) (m.flatMap quoteB ++ 34 :: w)
  rw [h, q2] at q1
  simp only [Option.some.injEq, Prod.mk.injEq] at q1
  obtain ⟨e1, e2⟩ := q1
  subst e1
  have h' := List.append_cancel_left h
  obtain ⟨e3, e4⟩ := quotes_inj (fun c hc => hl c (List.mem_cons_of_mem _ hc)) (fun c hc => hm c (List.mem_cons_of_mem _ hc)) h'
  exact ⟨by rw [e3], e4⟩
theorem text_signs {s : ByteArray} (h : textB s = true) : ∃ cs, signsL s.data.toList = some cs ∧ (∀ c ∈ cs, fineC c) ∧ s = qB (toB (cs.flatMap putB)) ∧ qT s = 34 :: (cs.flatMap quoteB ++ [34]) := by
 unfold textB at h
 cases hs : signsL s.data.toList with
 | none => rw [hs] at h; cases h
 | some cs =>
  have hS := sgAt_start hs
  have hb := hS.bytes
  rw [List.drop_zero] at hb
  exact ⟨cs, rfl, hS.fine, by rw [← hb, qB_self], by unfold qT; rw [hs]⟩
theorem qT_inj {s u : ByteArray} {r w : List UInt8} (hs : textB s = true) (hu : textB u = true) (h : qT s ++ r = qT u ++ w) : s = u ∧ r = w := by
 obtain ⟨cs, _, f1, e1, q1⟩ := text_signs hs
 obtain ⟨ds, _, f2, e2, q2⟩ := text_signs hu
 rw [q1, q2] at h
 simp only [List.cons_append, List.append_assoc, List.cons.injEq, true_and, List.nil_append] at h
 obtain ⟨e3, e4⟩ := quotes_inj f1 f2 h
 exact ⟨by rw [e1, e2, e3], e4⟩
theorem qT_second {s : ByteArray} (hs : textB s = true) : ∃ b t, qT s = 34 :: b :: t ∧ (b = 35 → mk35 s = true) ∧ (mk35 s = true → b = 35) := by
  obtain ⟨cs, h0, f1, e1, q1⟩ := text_signs hs
  rw [q1]
  cases cs with
  | nil =>
    refine ⟨34, _, rfl, fun e => absurd e (by decide), fun e => ?_⟩
    rw [e1] at e
    cases e
  | cons c l =>
    have hf := f1 c (List.mem_cons_self ..)
    obtain ⟨b, t, e2, e3, e4⟩ := quote_head hf
    obtain ⟨b', t', e5, e6⟩ := toB_head hf
    have hz := hf.1
    have hmk : mk35 s = (b' == 35) := by
      rw [e1]
      unfold mk35 qB
      simp only [List.flatMap_cons]
      have : toB (putB c ++ l.flatMap putB) = toB (putB c) ++ toB (l.flatMap putB) := by simp [toB]
      rw [this, e5]
      rfl
    refine ⟨b, t ++ (l.flatMap quoteB ++ [34]), by rw [List.flatMap_cons, e2]; simp, fun e => ?_, fun e => ?_⟩
    · have hc := e4 e
      rw [hmk]
      subst hc
      rw [if_pos (by omega)] at e6
      rw [beq_iff_eq]
      exact UInt8.toNat_inj.1 e6
    · rw [hmk, beq_iff_eq] at e
      rw [e, show (35 : UInt8).toNat = 35 from rfl] at e6
      have hc : c = 35 := by
        repeat' split at e6
        all_goals omega
      subst hc
      simp only [show quoteB 35 = [35] from rfl, List.cons.injEq] at e2
      exact e2.1.symm
end Go.Ab
end
section
namespace Go.Ab
def stopX (r : List UInt8) : Prop := r = [] ∨ ∃ b t, r = b :: t ∧ (b = 44 ∨ b = 93 ∨ b = 125)
theorem stopX.digit {r : List UInt8} (h : stopX r) : stopD r ∧ ∀ t, r ≠ 46 :: t := by
 rcases h with rfl | ⟨b, t, rfl, h⟩
 ·exact ⟨fun b t h => by simp at h, fun t h => by simp at h⟩
 ·refine ⟨fun b' t' e => ?_, fun t' e => ?_⟩
  ·simp only [List.cons.injEq] at e
   rw [← e.1]
   rcases h with rfl | rfl | rfl <;> rfl
  ·simp only [List.cons.injEq] at e
   rcases h with rfl | rfl | rfl <;> cases e.1
theorem keyL_inj {a b : ByteArray} (h : keyL a = keyL b) : a = b := by
 have toL : ∀ {x y : ByteArray}, x.data.toList = y.data.toList → x = y := fun {x y} e => by rw [← qB_self x, e, qB_self]
 have self : ∀ l : List UInt8, (qB l).data.toList = l := fun _ => rfl
 unfold keyL at h
 split at h
 ·rename_i ha
  split at h
  ·have := congrArg (fun x : ByteArray => x.data.toList) h
   simp only [self, List.cons.injEq, true_and] at this
   exact toL this
  ·rename_i hb
   exfalso
   apply hb
   rw [← h]
   rfl
 ·rename_i ha
  split at h
  ·exfalso
   apply ha
   rw [h]
   rfl
  ·exact h
theorem keyL_third {s : ByteArray} (hs : textB s = true) : ∃ b t, qT (keyL s) = 34 :: b :: t ∧ (b = 35 → ∃ t', t = 35 :: t') := by
 by_cases hm : mk35 s = true
 ·obtain ⟨cs, h0, f1, e1, q1⟩ := text_signs hs
  cases cs with
  | nil => rw [e1] at hm; cases hm
  | cons c l =>
   have hk : keyL s = qB (35 :: s.data.toList) := by unfold keyL; rw [if_pos hm]
   have hq : qT (keyL s) = 34 :: 35 :: (((c :: l).flatMap quoteB) ++ [34]) := by
    unfold qT
    rw [hk, show (qB (35 :: s.data.toList)).data.toList = 35 :: s.data.toList from rfl, signs35 h0]
    rfl
   obtain ⟨b, t, e2, _, e4⟩ := qT_second hs
   rw [q1] at e2
   simp only [List.cons.injEq, true_and] at e2
   have hb := e4 hm
   subst hb
   exact ⟨35, _, hq, fun _ => ⟨t, e2⟩⟩
 ·have hk : keyL s = s := by unfold keyL; rw [if_neg hm]
  obtain ⟨b, t, e2, e3, _⟩ := qT_second hs
  rw [hk]
  exact ⟨b, t, e2, fun e => absurd (e3 e) hm⟩
def cls (l : List UInt8) : Nat := match l with
  | 110 :: _ => 0
  | 102 :: _ => 1
  | 116 :: _ => 2
  | 34 :: _ => 4
  | 91 :: _ => 5
  | 123 :: 34 :: 35 :: 34 :: 58 :: 110 :: _ => 8
  | 123 :: 34 :: 35 :: 34 :: 58 :: 34 :: _ => 9
  | 123 :: 34 :: 35 :: 33 :: _ => 7
  | 123 :: _ => 6
  | _ => 3
inductive CE (L : Lt) (nm : List ByteArray) : ND → Prop where
  | hole : CE L nm (holeN L)
  | mk {x k c s : Int} {t : ByteArray} {is : List ND} {ks : List ByteArray} (hx : 0 ≤ x ∧ x < nm.length) (hk : 0 ≤ k ∧ k ≤ 7) (h3 : k = 3 → num4B c s = true) (hz3 : k ≠ 3 → c = 0 ∧ s = 0) (ht : textB t = true) (htz : k ≠ 4 → k ≠ 7 → t = ⟨#[]⟩)
      (hks : k = 6 → ks.length = is.length) (hkt : ∀ s ∈ ks, textB s = true) (hkz : k ≠ 6 → ks = []) (hi : k ≠ 5 → k ≠ 6 → is = []) (h : ∀ v ∈ is, CE L nm v) : CE L nm (.mk x (deepP L x.toNat is) k c s t is ks)
theorem cls3 {b : UInt8} {t : List UInt8} (h : b = 45 ∨ dig b = true) : cls (b :: t) = 3 := by
 have h1 : b ≠ 110 ∧ b ≠ 102 ∧ b ≠ 116 ∧ b ≠ 34 ∧ b ≠ 91 ∧ b ≠ 123 := by
  refine ⟨?_, ?_, ?_, ?_, ?_, ?_⟩ <;> (rintro rfl; rcases h with h | h <;> cases h)
 obtain ⟨a1, a2, a3, a4, a5, a6⟩ := h1
 unfold cls
 split <;> first | rfl | (rename_i e; simp only [List.cons.injEq] at e; exfalso; first | exact a1 e.1 | exact a2 e.1 | exact a3 e.1 | exact a4 e.1 | exact a5 e.1 | exact a6 e.1)
theorem cls_key {b : UInt8} {t r : List UInt8} (h : b = 35 → ∃ t', t = 35 :: t') : cls (123 :: 34 :: b :: (t ++ r)) = 6 := by
 by_cases hb : b = 35
 ·subst hb
  obtain ⟨t', rfl⟩ := h rfl
  rfl
 ·unfold cls
  split <;> first | rfl | (rename_i e; simp at e; done) | (rename_i e; simp only [List.cons.injEq] at e; exact absurd e.2.2.1 hb) | (rename_i e; exact absurd rfl (e _))
section
variable {L : Lt} {nm : List ByteArray} (hn : NmOk nm)
include hn
theorem cls_body {x k c s : Int} {t : ByteArray} {is : List ND} {ks : List ByteArray} (hk : 0 ≤ k ∧ k ≤ 7) (h3 : k = 3 → num4B c s = true) (ht : textB t = true) (hks : k = 6 → ks.length = is.length) (hkt : ∀ s ∈ ks, textB s = true) (r : List UInt8) :
   cls (bodyT k c s t (shTs nm x k true is ks) ++ r) = k.toNat := by
 obtain h | h | h | h | h | h | h | h : k = 0 ∨ k = 1 ∨ k = 2 ∨ k = 3 ∨ k = 4 ∨ k = 5 ∨ k = 6 ∨ k = 7 := by omega
 · subst h; rfl
 · subst h; rfl
 · subst h; rfl
 · subst h
   obtain ⟨b, u, e1, e2⟩ := numT_head c s
   rw [show bodyT 3 c s t (shTs nm x 3 true is ks) = numT c s from rfl, e1, List.cons_append, cls3 e2]
   rfl
 · subst h
   obtain ⟨b, u, e1, _⟩ := qT_second ht
   rw [show bodyT 4 c s t (shTs nm x 4 true is ks) = qT t from rfl, e1]
   rfl
 · subst h; rfl
 · subst h
   rw [show bodyT 6 c s t (shTs nm x 6 true is ks) = 123 :: (shTs nm x 6 true is ks ++ [125]) from rfl]
   cases is with
   | nil => simp only [shTs]; rfl
   | cons v q =>
     cases ks with
     | nil => exact absurd (hks rfl) (by simp)
     | cons k0 kq =>
       obtain ⟨b, u, e1, e2⟩ := keyL_third (hkt k0 (List.mem_cons_self ..))
       rw [shTs_cons]
       simp only [cma, List.nil_append, if_true, List.headD_cons, e1, List.cons_append, List.append_assoc]
       rw [cls_key e2]
       rfl
 · subst h; rfl
theorem cls_shT {U : ND} (hU : CE L nm U) (up : Int) (r : List UInt8) : cls (shT nm up U ++ r) = (match U with | .mk x _ k _ _ _ _ _ => if k = 8 then 8 else if x = up then k.toNat else 9) := by
 cases hU with
 | hole =>
  unfold holeN
  rw [shT_mk, if_pos rfl]
  rfl
 | @mk x k c s t is ks hx hk h3 hz3 ht htz hks hkt hkz hi h =>
  have h8 : k ≠ 8 := by omega
  simp only []
  rw [shT_mk, if_neg h8, if_neg h8]
  by_cases hup : x = up
  ·rw [if_pos hup, if_pos hup]
   exact cls_body hn hk h3 ht hks hkt r
  ·rw [if_neg hup, if_neg hup]
   have hmem : nm.getD x.toNat ⟨#[]⟩ ∈ nm := by
    rw [List.getD_eq_getElem?_getD, List.getElem?_eq_getElem (by omega)]
    exact List.getElem_mem (by omega)
   obtain ⟨b, u, e1, _⟩ := qT_second (hn _ hmem).2
   rw [e1]
   rfl
theorem shT_head {U : ND} (hU : CE L nm U) (up : Int) : ∃ b t, shT nm up U = b :: t ∧ b ≠ 44 ∧ b ≠ 93 ∧ b ≠ 125 := by
 cases hU with
 | hole =>
  unfold holeN
  rw [shT_mk, if_pos rfl]
  exact ⟨123, _, rfl, by decide, by decide, by decide⟩
 | @mk x k c s t is ks hx hk h3 hz3 ht htz hks hkt hkz hi h =>
  have h8 : k ≠ 8 := by omega
  rw [shT_mk, if_neg h8]
  by_cases hup : x = up
  ·rw [if_pos hup]
   obtain h | h | h | h | h | h | h | h : k = 0 ∨ k = 1 ∨ k = 2 ∨ k = 3 ∨ k = 4 ∨ k = 5 ∨ k = 6 ∨ k = 7 := by omega
   ·subst h; exact ⟨110, _, rfl, by decide, by decide, by decide⟩
   ·subst h; exact ⟨102, _, rfl, by decide, by decide, by decide⟩
   ·subst h; exact ⟨116, _, rfl, by decide, by decide, by decide⟩
   ·subst h
    obtain ⟨b, u, e1, e2⟩ := numT_head c s
    refine ⟨b, u, e1, ?_, ?_, ?_⟩ <;> (rintro rfl; rcases e2 with e2 | e2 <;> cases e2)
   ·subst h
    obtain ⟨b, u, e1, _⟩ := qT_second ht
    exact ⟨34, _, e1, by decide, by decide, by decide⟩
   ·subst h; exact ⟨91, _, rfl, by decide, by decide, by decide⟩
   ·subst h; exact ⟨123, _, rfl, by decide, by decide, by decide⟩
   ·subst h; exact ⟨123, _, rfl, by decide, by decide, by decide⟩
  ·rw [if_neg hup]
   exact ⟨123, _, rfl, by decide, by decide, by decide⟩
theorem items_inj (x k : Int) (z : UInt8) (hz : z = 93 ∨ z = 125) : ∀ (is : List ND), (∀ U ∈ is, CE L nm U ∧ ∀ (V : ND) (r w : List UInt8), CE L nm V → stopX r → stopX w → shT nm x U ++ r = shT nm x V ++ w → U = V ∧ r = w) →
    ∀ (js : List ND) (ks ls : List ByteArray) (first : Bool) (r w : List UInt8), (∀ V ∈ js, CE L nm V) → (k = 6 → ks.length = is.length) → (k = 6 → ls.length = js.length) → (∀ s ∈ ks, textB s = true) → (∀ s ∈ ls, textB s = true) →
    shTs nm x k first is ks ++ z :: r = shTs nm x k first js ls ++ z :: w → is = js ∧ (k = 6 → ks = ls) ∧ r = w := by
  intro is
  have nothead : ∀ (V : ND) (js : List ND) (ls : List ByteArray) (first : Bool) (r w : List UInt8), CE L nm V → (k = 6 → ls.length = (V :: js).length) → (∀ s ∈ ls, textB s = true) → z :: r ≠ shTs nm x k first (V :: js) ls ++ w := by
    intro V js ls first r w hV hl ht e
    rw [shTs_cons] at e
    cases first with
    | false =>
      simp only [cma, List.cons_append, List.cons.injEq] at e
      rcases hz with rfl | rfl <;> cases e.1
    | true =>
      simp only [cma, List.nil_append] at e
      by_cases h6 : k = 6
      · cases ls with
        | nil => exact absurd (hl h6) (by simp)
        | cons l0 lq =>
          obtain ⟨b, u, e1, _⟩ := keyL_third (ht l0 (List.mem_cons_self ..))
          rw [if_pos h6] at e
          simp only [List.headD_cons, e1, List.cons_append, List.cons.injEq] at e
          rcases hz with rfl | rfl <;> cases e.1
      · obtain ⟨b, u, e1, e2, e3, e4⟩ := shT_head hn hV x
        rw [if_neg h6, List.nil_append, e1] at e
        simp only [List.cons_append, List.cons.injEq] at e
        rcases hz with rfl | rfl
        · exact e3 e.1.symm
        · exact e4 e.1.symm
  have stop : ∀ (js : List ND) (ls : List ByteArray) (r : List UInt8), stopX (shTs nm x k false js ls ++ z :: r) := by
    intro js ls r
    cases js with
    | nil =>
      simp only [shTs, List.nil_append]
      exact .inr ⟨z, r, rfl, .inr hz⟩
    | cons V q =>
      rw [shTs_cons]
      exact .inr ⟨44, _, rfl, .inl rfl⟩
  induction is with
  | nil =>
    intro hU js ks ls first r w hV hk hl ht ht2 e
    cases js with
    | nil =>
      simp only [shTs, List.nil_append, List.cons.injEq, true_and] at e
      refine ⟨rfl, fun h6 => ?_, e⟩
      rw [List.eq_nil_of_length_eq_zero (hk h6), List.eq_nil_of_length_eq_zero (hl h6)]
    | cons V q =>
      rw [shTs, List.nil_append] at e
      exact absurd e (nothead V q ls first r _ (hV V (List.mem_cons_self ..)) hl ht2)
  | cons U p ih =>
    intro hU js ks ls first r w hV hk hl ht ht2 e
    cases js with
    | nil =>
      rw [shTs.eq_1 nm x k first ls, List.nil_append] at e
      exact absurd e.symm (nothead U p ks first w _ (hU U (List.mem_cons_self ..)).1 hk ht)
    | cons V q =>
      rw [shTs_cons, shTs_cons] at e
      simp only [List.append_assoc] at e
      have e2 := List.append_cancel_left e
      have hUh := (hU U (List.mem_cons_self ..)).2
      have hVc := hV V (List.mem_cons_self ..)
      by_cases h6 : k = 6
      · rw [if_pos h6, if_pos h6] at e2
        cases ks with
        | nil => exact absurd (hk h6) (by simp)
        | cons k0 kq =>
          cases ls with
          | nil => exact absurd (hl h6) (by simp)
          | cons l0 lq =>
            simp only [List.headD_cons, List.append_assoc, List.cons_append, List.nil_append, List.tail_cons] at e2
            obtain ⟨q1, q2⟩ := qT_inj (keyL_text (ht k0 (List.mem_cons_self ..))) (keyL_text (ht2 l0 (List.mem_cons_self ..))) e2
            have q3 := keyL_inj q1
            simp only [List.cons.injEq, true_and] at q2
            obtain ⟨u1, u2⟩ := hUh V _ _ hVc (stop p kq r) (stop q lq w) q2
            obtain ⟨v1, v2, v3⟩ := ih (fun y hy => hU y (List.mem_cons_of_mem _ hy)) q kq lq false r w (fun y hy => hV y (List.mem_cons_of_mem _ hy)) (fun h => by have := hk h; simpa using this) (fun h => by have := hl h; simpa using this) (fun s hs => ht s (List.mem_cons_of_mem _ hs)) (fun s hs => ht2 s (List.mem_cons_of_mem _ hs)) u2
            exact ⟨by rw [u1, v1], fun h => by rw [q3, v2 h], v3⟩
      · rw [if_neg h6, if_neg h6, List.nil_append, List.nil_append] at e2
        obtain ⟨u1, u2⟩ := hUh V _ _ hVc (stop p ks.tail r) (stop q ls.tail w) e2
        obtain ⟨v1, v2, v3⟩ := ih (fun y hy => hU y (List.mem_cons_of_mem _ hy)) q ks.tail ls.tail false r w (fun y hy => hV y (List.mem_cons_of_mem _ hy)) (fun h => absurd h h6) (fun h => absurd h h6) (fun s hs => ht s (List.mem_of_mem_tail hs)) (fun s hs => ht2 s (List.mem_of_mem_tail hs)) u2
        exact ⟨by rw [u1, v1], fun h => absurd h h6, v3⟩
theorem body_inj {x k c s c' s' : Int} {t t' : ByteArray} {is js : List ND} {ks ls : List ByteArray} {r w : List UInt8} (hr : stopX r) (hw : stopX w) (hk : 0 ≤ k ∧ k ≤ 7) (h3 : k = 3 → num4B c s = true) (g3 : k = 3 → num4B c' s' = true) (hz3 : k ≠ 3 → c = 0 ∧ s = 0) (gz3 : k ≠ 3 → c' = 0 ∧ s' = 0)
   (ht : textB t = true) (gt : textB t' = true) (htz : k ≠ 4 → k ≠ 7 → t = ⟨#[]⟩) (gtz : k ≠ 4 → k ≠ 7 → t' = ⟨#[]⟩) (hks : k = 6 → ks.length = is.length) (gks : k = 6 → ls.length = js.length) (hkt : ∀ s ∈ ks, textB s = true) (gkt : ∀ s ∈ ls, textB s = true) (hkz : k ≠ 6 → ks = []) (gkz : k ≠ 6 → ls = []) (hi : k ≠ 5 → k ≠ 6 → is = []) (gi : k ≠ 5 → k ≠ 6 → js = [])
   (hU : ∀ U ∈ is, CE L nm U ∧ ∀ (V : ND) (r w : List UInt8), CE L nm V → stopX r → stopX w → shT nm x U ++ r = shT nm x V ++ w → U = V ∧ r = w) (hV : ∀ V ∈ js, CE L nm V)
   (e : bodyT k c s t (shTs nm x k true is ks) ++ r = bodyT k c' s' t' (shTs nm x k true js ls) ++ w) : c = c' ∧ s = s' ∧ t = t' ∧ is = js ∧ ks = ls ∧ r = w := by
 by_cases h56 : k = 5 ∨ k = 6
 · rw [bodyT_items h56, bodyT_items h56] at e
   simp only [List.cons_append, List.append_assoc, List.cons.injEq, true_and, List.nil_append] at e
   obtain ⟨z1, z2⟩ := hz3 (by omega)
   obtain ⟨z3, z4⟩ := gz3 (by omega)
   have hzz : (if k = 6 then (125 : UInt8) else 93) = 93 ∨ (if k = 6 then (125 : UInt8) else 93) = 125 := by
     split
     · exact .inr rfl
     · exact .inl rfl
   obtain ⟨v1, v2, v3⟩ := items_inj hn x k _ hzz is hU js ks ls true r w hV hks gks hkt gkt e
   refine ⟨by rw [z1, z3], by rw [z2, z4], by rw [htz (by omega) (by omega), gtz (by omega) (by omega)], v1, ?_, v3⟩
   by_cases h6 : k = 6
   · exact v2 h6
   · rw [hkz h6, gkz h6]
 · have i1 := hi (by omega) (by omega)
   have i2 := gi (by omega) (by omega)
   have i3 := hkz (by omega)
   have i4 := gkz (by omega)
   subst i1; subst i2; subst i3; subst i4
   by_cases k3 : k = 3
   · subst k3
     rw [show bodyT 3 c s t (shTs nm x 3 true [] []) = numT c s from rfl, show bodyT 3 c' s' t' (shTs nm x 3 true [] []) = numT c' s' from rfl] at e
     obtain ⟨a1, a2⟩ := hr.digit
     obtain ⟨b1, b2⟩ := hw.digit
     obtain ⟨n1, n2, n3⟩ := numT_inj (h3 rfl) (g3 rfl) a1 a2 b1 b2 e
     exact ⟨n1, n2, by rw [htz (by omega) (by omega), gtz (by omega) (by omega)], rfl, rfl, n3⟩
   · obtain ⟨z1, z2⟩ := hz3 k3
     obtain ⟨z3, z4⟩ := gz3 k3
     subst z1; subst z2; subst z3; subst z4
     by_cases k4 : k = 4
     · subst k4
       rw [show bodyT 4 0 0 t (shTs nm x 4 true [] []) = qT t from rfl, show bodyT 4 0 0 t' (shTs nm x 4 true [] []) = qT t' from rfl] at e
       obtain ⟨q1, q2⟩ := qT_inj ht gt e
       exact ⟨rfl, rfl, q1, rfl, rfl, q2⟩
     · by_cases k7 : k = 7
       · subst k7
         rw [show bodyT 7 0 0 t (shTs nm x 7 true [] []) = [123, 34, 35, 33, 34, 58] ++ qT t ++ [125] from rfl, show bodyT 7 0 0 t' (shTs nm x 7 true [] []) = [123, 34, 35, 33, 34, 58] ++ qT t' ++ [125] from rfl] at e
         simp only [List.append_assoc] at e
         obtain ⟨q1, q2⟩ := qT_inj ht gt (List.append_cancel_left e)
         exact ⟨rfl, rfl, q1, rfl, rfl, List.append_cancel_left q2⟩
       · have t1 := htz k4 k7
         have t2 := gtz k4 k7
         subst t1; subst t2
         exact ⟨rfl, rfl, rfl, rfl, rfl, List.append_cancel_left e⟩
theorem shT_inj (hnd : ∀ i j : Nat, i < nm.length → j < nm.length → nm.getD i ⟨#[]⟩ = nm.getD j ⟨#[]⟩ → i = j) {U : ND} (hU : CE L nm U) : ∀ (up : Int) (V : ND) (r w : List UInt8), CE L nm V → stopX r → stopX w → shT nm up U ++ r = shT nm up V ++ w → U = V ∧ r = w := by
 induction hU with
 | hole =>
  intro up V r w hV hr hw e
  have c1 := cls_shT hn (CE.hole (L := L) (nm := nm)) up r
  have c2 := cls_shT hn hV up w
  rw [e] at c1
  rw [c1] at c2
  cases hV with
  | hole => exact ⟨rfl, List.append_cancel_left e⟩
  | @mk x k c s t is ks hx hk h3 hz3 ht htz hks hkt hkz hi h =>
   exfalso
   simp only [holeN] at c2
   rw [if_neg (show k ≠ 8 by omega)] at c2
   simp at c2
   split at c2 <;> omega
 | @mk x k c s t is ks hx hk h3 hz3 ht htz hks hkt hkz hi h ih =>
  intro up V r w hV hr hw e
  have c1 := cls_shT hn (CE.mk (L := L) (nm := nm) hx hk h3 hz3 ht htz hks hkt hkz hi h) up r
  have c2 := cls_shT hn hV up w
  rw [e] at c1
  rw [c1] at c2
  cases hV with
  | hole =>
   exfalso
   simp only [holeN] at c2
   rw [if_neg (show k ≠ 8 by omega)] at c2
   simp at c2
   split at c2 <;> omega
  | @mk x' k' c' s' t' is' ks' hx' hk' h3' hz3' ht' htz' hks' hkt' hkz' hi' h' =>
   simp only [] at c2
   rw [if_neg (show k ≠ 8 by omega), if_neg (show k' ≠ 8 by omega)] at c2
   have hmm : ∀ y : Int, 0 ≤ y ∧ y < nm.length → textB (nm.getD y.toNat ⟨#[]⟩) = true := fun y hy => by
    have hmem : nm.getD y.toNat ⟨#[]⟩ ∈ nm := by
     rw [List.getD_eq_getElem?_getD, List.getElem?_eq_getElem (by omega)]
     exact List.getElem_mem (by omega)
    exact (hn _ hmem).2
   have hxk : x = x' ∧ k = k' ∧ ∃ r' w', stopX r' ∧ stopX w' ∧ (r' = w' → r = w) ∧ bodyT k c s t (shTs nm x k true is ks) ++ r' = bodyT k' c' s' t' (shTs nm x' k' true is' ks') ++ w' := by
    rw [shT_mk, shT_mk, if_neg (show k ≠ 8 by omega), if_neg (show k' ≠ 8 by omega)] at e
    by_cases hup : x = up
    ·by_cases hup' : x' = up
     ·rw [if_pos hup, if_pos hup'] at c2 e
      exact ⟨by omega, by omega, r, w, hr, hw, fun h => h, e⟩
     ·rw [if_pos hup, if_neg hup'] at c2
      omega
    ·by_cases hup' : x' = up
     ·rw [if_neg hup, if_pos hup'] at c2
      omega
     ·rw [if_neg hup, if_neg hup'] at e
      simp only [List.append_assoc] at e
      obtain ⟨q1, q2⟩ := qT_inj (hmm x hx) (hmm x' hx') (List.append_cancel_left e)
      have hxx := hnd x.toNat x'.toNat (by omega) (by omega) q1
      have q3 := List.append_cancel_left q2
      have hxe : x = x' := by omega
      refine ⟨hxe, ?_, [125] ++ r, [125] ++ w, .inr ⟨125, r, rfl, .inr (.inr rfl)⟩, .inr ⟨125, w, rfl, .inr (.inr rfl)⟩, fun h => List.append_cancel_left h, q3⟩
      have b1 := cls_body (x := x) hn hk h3 ht hks hkt ([125] ++ r)
      have b2 := cls_body (x := x') hn hk' h3' ht' hks' hkt' ([125] ++ w)
      rw [q3, b2] at b1
      omega
   obtain ⟨rfl, rfl, r', w', s1, s2, s3, e'⟩ := hxk
   obtain ⟨v1, v2, v3, v4, v5, v6⟩ := body_inj hn s1 s2 hk h3 h3' hz3 hz3' ht ht' htz htz' hks hks' hkt hkt' hkz hkz' hi hi' (fun U hU => ⟨h U hU, fun V r w a b d => ih U hU x V r w a b d⟩) h' e'
   subst v1; subst v2; subst v3; subst v4; subst v5
   exact ⟨rfl, s3 v6⟩
end
end Go.Ab
end
section
namespace Go.Ab
theorem len16 {α : Type} {l : List α} (h : l.length = 16) : ∃ a b c d e f g i a' b' c' d' e' f' g' i', l = [a, b, c, d, e, f, g, i, a', b', c', d', e', f', g', i'] := by
 match l, h with
 | [a, b, c, d, e, f, g, i, a', b', c', d', e', f', g', i'], _ => exact ⟨a, b, c, d, e, f, g, i, a', b', c', d', e', f', g', i', rfl⟩
section
variable {P : Program} {D B : Nat} {t ts t2 : Nat} (hB : B ≤ 134217728) (hft : flat P D t = [.int .i64, .int .i64, .int .i64, .int .i64, .int .i64, .str, .sl t, .sl ts]) (hfs : flat P D ts = [.str]) (hst : szOf P t = some (8, true)) (hss : szOf P ts = some (1, false)) (hb : P.bytesOf t = 104) (hbs : P.bytesOf ts = 16)
include hB hft hfs hst hss hb hbs
theorem nd2_of (hf2 : flat P D t2 = [.int .i64, .int .i64, .int .i64, .int .i64, .int .i64, .str, .sl t, .sl ts, .int .i64, .int .i64, .int .i64, .int .i64, .int .i64, .str, .sl t, .sl ts]) (hs2 : szOf P t2 = some (16, true)) {f : FV} (h : WV P D B t2 f) : ∃ (a d k c s : Int) (t : ByteArray) (is : List ND) (ks : List ByteArray) (a' d' k' c' s' : Int) (t' : ByteArray) (is' : List ND) (ks' : List ByteArray), f = .ag [.int .i64 a, .int .i64 d, .int .i64 k, .int .i64 c, .int .i64 s, .str t, .sl (is.map ND.enc), .sl (ks.map .str), .int .i64 a', .int .i64 d', .int .i64 k', .int .i64 c', .int .i64 s', .str t', .sl (is'.map ND.enc), .sl (ks'.map .str)] ∧ (ND.mk a d k c s t is ks).Sm ∧ (ND.mk a' d' k' c' s' t' is' ks').Sm := by
 obtain ⟨cs, rfl, hl, H⟩ := cells_of hs2 h
 obtain ⟨c0, c1, c2, c3, c4, c5, c6, c7, d0, d1, d2, d3, d4, d5, d6, d7, rfl⟩ := len16 hl
 rw [hf2] at H
 obtain ⟨v, hv, hvs⟩ := nd_eight hB hft hfs hst hss hb hbs (H 0 c0 _ rfl rfl) (H 1 c1 _ rfl rfl) (H 2 c2 _ rfl rfl) (H 3 c3 _ rfl rfl) (H 4 c4 _ rfl rfl) (H 5 c5 _ rfl rfl) (nds_of hB hft hfs hst hss hb hbs (H 6 c6 _ rfl rfl) rfl) (H 7 c7 _ rfl rfl)
 obtain ⟨u, hu, hus⟩ := nd_eight hB hft hfs hst hss hb hbs (H 8 d0 _ rfl rfl) (H 9 d1 _ rfl rfl) (H 10 d2 _ rfl rfl) (H 11 d3 _ rfl rfl) (H 12 d4 _ rfl rfl) (H 13 d5 _ rfl rfl) (nds_of hB hft hfs hst hss hb hbs (H 14 d6 _ rfl rfl) rfl) (H 15 d7 _ rfl rfl)
 obtain ⟨a, d, k, c, s, t, is, ks⟩ := v
 obtain ⟨a', d', k', c', s', t', is', ks'⟩ := u
 rw [ND.enc_mk] at hv hu
 injection hv with hv
 injection hu with hu
 simp only [List.cons.injEq, and_true] at hv hu
 obtain ⟨rfl, rfl, rfl, rfl, rfl, rfl, rfl, rfl⟩ := hv
 obtain ⟨rfl, rfl, rfl, rfl, rfl, rfl, rfl, rfl⟩ := hu
 exact ⟨_, _, _, _, _, _, _, _, _, _, _, _, _, _, _, _, rfl, hvs, hus⟩
end
end Go.Ab
end
section
namespace Go.Ab
open Go.Proofs
theorem ce_und {L : Lt} (O : L.Ok) {nm : List ByteArray} (hnl : L.n = nm.length) (a : Int) {v : ND} (hv : v.Sm) : mayB L v = true → ∀ up : Nat, CE L nm (und L a up v) := by
 induction hv with
 | @mk x d k c s t is ks hi hk ht hs h ih =>
  intro hm up
  have hit := fun y hy => may_item hm (v := y) hy
  have hm2 := hm
  simp only [mayB, labB_mk, strip_mk, shapeB_mk, Bool.and_eq_true, isR, preB, zeroB] at hm2
  obtain ⟨⟨h1, _⟩, _, ⟨h2, h3⟩, ⟨h4, h5, ⟨z1, z2, z3, z4⟩, h7, h8, h9, h10, h11, h12⟩, _⟩ := hm2
  simp only [List.length_map, List.length_replicate, Bool.not_eq_true', Bool.and_eq_false_imp, decide_eq_false_iff_not] at h2 h3 h4 h5 h9 h10 z1 z2
  have keys : ∀ (l : List ByteArray) (p : Option ByteArray), keysOk p l = true → ∀ s ∈ l, textB s = true := by
   intro l
   induction l with
   | nil => intro p _ s hs; cases hs
   | cons u r ihr =>
    intro p hp s hs
    simp only [keysOk, Bool.and_eq_true] at hp
    rcases List.mem_cons.1 hs with rfl | hs
    ·exact hp.1
    ·exact ihr _ hp.2.2 s hs
  rw [und_mk]
  split
  ·have hlt := O.joinI_lt up x
   have hi0 : k ≠ 5 → k ≠ 6 → is = [] := fun n5 n6 => by
    have := h3 (by simpa using n5) (by simpa using n6)
    exact List.eq_nil_of_length_eq_zero (by omega)
   have hce := CE.mk (L := L) (nm := nm) (x := (L.joinI up x : Nat)) (k := k) (c := c) (s := s) (t := t) (is := is.map (und L a (L.joinI up x))) (ks := ks) ⟨by omega, by omega⟩ ⟨by omega, by omega⟩ (fun h3' => by subst h3'; simpa using h9) (fun n3 => ?_) h8 (fun n4 n7 => ?_) (fun h6' => ?_) (keys ks none h11) (fun n6 => ?_) (fun n5 n6 => by rw [hi0 n5 n6]; rfl) (fun v hv => ?_)
   ·rw [Int.toNat_natCast] at hce
    exact hce
   ·have := z1 (by simpa using n3)
    simpa using this
   ·have := z2 (by simpa using n4) (by simpa using n7)
    rw [bytes_beq] at this
    simpa using this
   ·have := h2 (by simp [h6'])
    simp only [bne_eq_false_iff_eq] at this
    rw [List.length_map]
    omega
   ·have : ((k == 6) || ((ks.length : Int) == 0)) = true := z4
    rw [show (k == 6) = false by simpa using n6, Bool.false_or, beq_iff_eq] at this
    exact List.eq_nil_of_length_eq_zero (by omega)
   ·obtain ⟨y, hy, rfl⟩ := List.mem_map.1 hv
    exact ih y hy (hit y hy) _
  ·exact CE.hole
theorem pure_ShowAlike (f0 f1 f2 : FV) (h0 : WV Try.prog 40 134217728 3 f0) (h1 : WV Try.prog 40 134217728 49 f1) (h2 : WV Try.prog 40 134217728 3 f2) : Rt N_law12_ShowAlike [.fz f0, .fz f1, .fz f2] = some ([.fz (.bool true)], []) := by
 obtain ⟨kk, rfl, _⟩ := int_of (k := .i64) (by kernel_rfl) (by kernel_rfl) h0
 obtain ⟨aa, rfl, _⟩ := int_of (k := .i64) (by kernel_rfl) (by kernel_rfl) h2
 obtain ⟨a, d, k, c, s, t, is, ks, a', d', k', c', s', t', is', ks', rfl, hv, hu⟩ := nd2_of (t := 27) (ts := 9) (Nat.le_refl _) (by kernel_rfl) (by kernel_rfl) (by kernel_rfl) (by kernel_rfl) (by kernel_rfl) (by kernel_rfl) (by kernel_rfl) (by kernel_rfl) h1
 obtain ⟨e, t9, nm, L, N, hof⟩ := of12_ok kk
 have O := N.lat.ok
 have hl := lives12_ok
 obtain ⟨b1, hb1, hlt1⟩ := light1_ok N hv
 obtain ⟨b2, hb2, hlt2⟩ := light1_ok N hu
 have hE := E_law12_ShowAlike Rt 0 true kk a d k c s t (is.map ND.enc) (ks.map .str) a' d' k' c' s' t' (is'.map ND.enc) (ks'.map .str) aa
 simp only [← ND.enc_mk] at hE
 refine rt_call A_law12_ShowAlike rfl rfl 0 (hE.trans ?_)
 simp only [hof, onR_some, onL_some, List.isEmpty_nil, allF_cons, allF_nil, Bool.and_true, Bool.true_and, when_true', List.getD_cons_zero, List.getD_cons_succ, isF_fz, toF_fz, isBool_bool, toBool_bool, isInt_int, toInt_int, isStr_str, toStr_str, isSl_sl, toSl_sl, List.length_cons, List.length_nil, List.all_cons, List.all_nil, lisFz_fz, ltoFz_fz, beq_self_eq_true, jump_true, ifB_true, ifB_false, isF_pv, isPv_pv, toV_pv, isNil_nilp, isNil_pt, isPt_pt, toAg_ag, cell_ag, isAg_ag, fits_ag, Int.toNat_natCast, Bool.not_true, Bool.not_false, fits_int, fits_bool, fits_str, fits_sl, hb1]
 cases b1 with
 | false => simp only [onR_some, onL_some, List.isEmpty_nil, allF_cons, allF_nil, Bool.and_true, Bool.true_and, when_true', List.getD_cons_zero, List.getD_cons_succ, isF_fz, toF_fz, isBool_bool, toBool_bool, isInt_int, toInt_int, isStr_str, toStr_str, isSl_sl, toSl_sl, List.length_cons, List.length_nil, List.all_cons, List.all_nil, lisFz_fz, ltoFz_fz, beq_self_eq_true, jump_true, ifB_true, ifB_false, isF_pv, isPv_pv, toV_pv, isNil_nilp, isNil_pt, isPt_pt, toAg_ag, cell_ag, isAg_ag, fits_ag, Int.toNat_natCast, Bool.not_true, Bool.not_false, fits_int, fits_bool, fits_str, fits_sl, hl]
 | true =>
  simp only [onR_some, onL_some, List.isEmpty_nil, allF_cons, allF_nil, Bool.and_true, Bool.true_and, when_true', List.getD_cons_zero, List.getD_cons_succ, isF_fz, toF_fz, isBool_bool, toBool_bool, isInt_int, toInt_int, isStr_str, toStr_str, isSl_sl, toSl_sl, List.length_cons, List.length_nil, List.all_cons, List.all_nil, lisFz_fz, ltoFz_fz, beq_self_eq_true, jump_true, ifB_true, ifB_false, isF_pv, isPv_pv, toV_pv, isNil_nilp, isNil_pt, isPt_pt, toAg_ag, cell_ag, isAg_ag, fits_ag, Int.toNat_natCast, Bool.not_true, Bool.not_false, fits_int, fits_bool, fits_str, fits_sl, hb2]
  cases b2 with
  | false => simp only [onR_some, onL_some, List.isEmpty_nil, allF_cons, allF_nil, Bool.and_true, Bool.true_and, when_true', List.getD_cons_zero, List.getD_cons_succ, isF_fz, toF_fz, isBool_bool, toBool_bool, isInt_int, toInt_int, isStr_str, toStr_str, isSl_sl, toSl_sl, List.length_cons, List.length_nil, List.all_cons, List.all_nil, lisFz_fz, ltoFz_fz, beq_self_eq_true, jump_true, ifB_true, ifB_false, isF_pv, isPv_pv, toV_pv, isNil_nilp, isNil_pt, isPt_pt, toAg_ag, cell_ag, isAg_ag, fits_ag, Int.toNat_natCast, Bool.not_true, Bool.not_false, fits_int, fits_bool, fits_str, fits_sl, hl]
  | true =>
   obtain ⟨c1, m1⟩ := hlt1 rfl
   obtain ⟨c2, m2⟩ := hlt2 rfl
   have r1 := rshow_ok N hv m1 (by omega) aa
   have r2 := rshow_ok N hu m2 (by omega) aa
   have al := lift (alike_ok N.lat aa hv hu)
   have s1 := show_ok N hv m1 (by omega) aa 1000000 (by omega) (by omega)
   have s2 := show_ok N hu m2 (by omega) aa 1000000 (by omega) (by omega)
   have q1 := ce_und O N.n aa hv m1 L.bot
   have q2 := ce_und O N.n aa hu m2 L.bot
   have inj : ∀ h : shown nm L aa (.mk a d k c s t is ks) = shown nm L aa (.mk a' d' k' c' s' t' is' ks'), und L aa L.bot (.mk a d k c s t is ks) = und L aa L.bot (.mk a' d' k' c' s' t' is' ks') := fun h => by
    unfold shown at h
    exact (shT_inj N.ok N.inj q1 L.bot _ [] [] q2 (.inl rfl) (.inl rfl) (by rw [h])).1
   have same : sameND (und L aa L.bot (.mk a d k c s t is ks)) (und L aa L.bot (.mk a' d' k' c' s' t' is' ks')) = decide (qB (shown nm L aa (.mk a d k c s t is ks)) = qB (shown nm L aa (.mk a' d' k' c' s' t' is' ks'))) := by
    by_cases hs : shown nm L aa (.mk a d k c s t is ks) = shown nm L aa (.mk a' d' k' c' s' t' is' ks')
    ·rw [inj hs, sameND_self, hs, decide_eq_true rfl]
    ·rw [decide_eq_false (fun e => hs (by simpa [qB] using congrArg (fun x : ByteArray => x.data.toList) e))]
     unfold sameND
     simp only [decide_eq_false_iff_not]
     intro e
     apply hs
     unfold shown
     rw [e]
   generalize hT1 : shown nm L aa (.mk a d k c s t is ks) = T1 at r1 s1 same
   generalize hT2 : shown nm L aa (.mk a' d' k' c' s' t' is' ks') = T2 at r2 s2 same
   rw [same] at al
   have hz1 : (((qB T1).size : Nat) : Int) = (T1.length : Int) := rfl
   have hz2 : (((qB T2).size : Nat) : Int) = (T2.length : Int) := rfl
   have hnil : FV.isNil (.pt 195 true e 0) = false := rfl
   have hpt : FV.isPt (.pt 195 true e 0) = true := rfl
   simp only [hnil, hpt, Bool.or_false, when_true', ifB_false, jump_true]
   rw [J_law12_ShowAlike_2_0_eq]
   simp only [← ND.enc_mk, onR_some, onL_some, List.isEmpty_nil, allF_cons, allF_nil, Bool.and_true, Bool.true_and, when_true', List.getD_cons_zero, List.getD_cons_succ, isF_fz, toF_fz, isBool_bool, toBool_bool, isInt_int, toInt_int, isStr_str, toStr_str, isSl_sl, toSl_sl, List.length_cons, List.length_nil, List.all_cons, List.all_nil, lisFz_fz, ltoFz_fz, beq_self_eq_true, jump_true, ifB_true, ifB_false, isF_pv, isPv_pv, toV_pv, isNil_nilp, isNil_pt, isPt_pt, toAg_ag, cell_ag, isAg_ag, fits_ag, Int.toNat_natCast, Bool.not_true, Bool.not_false, fits_int, fits_bool, fits_str, fits_sl, r1, r2, hz1, hz2]
   by_cases g1 : (T1.length : Int) > 900000
   ·simp only [decide_eq_true g1, ifB_true, onR_some, onL_some, List.isEmpty_nil, allF_cons, allF_nil, Bool.and_true, Bool.true_and, when_true', List.getD_cons_zero, List.getD_cons_succ, isF_fz, toF_fz, isBool_bool, toBool_bool, isInt_int, toInt_int, isStr_str, toStr_str, isSl_sl, toSl_sl, List.length_cons, List.length_nil, List.all_cons, List.all_nil, lisFz_fz, ltoFz_fz, beq_self_eq_true, jump_true, ifB_true, ifB_false, isF_pv, isPv_pv, toV_pv, isNil_nilp, isNil_pt, isPt_pt, toAg_ag, cell_ag, isAg_ag, fits_ag, Int.toNat_natCast, Bool.not_true, Bool.not_false, fits_int, fits_bool, fits_str, fits_sl, hl]
   by_cases g2 : (T2.length : Int) > 900000
   ·simp only [decide_eq_false g1, decide_eq_true g2, ifB_true, ifB_false, onR_some, onL_some, List.isEmpty_nil, allF_cons, allF_nil, Bool.and_true, Bool.true_and, when_true', List.getD_cons_zero, List.getD_cons_succ, isF_fz, toF_fz, isBool_bool, toBool_bool, isInt_int, toInt_int, isStr_str, toStr_str, isSl_sl, toSl_sl, List.length_cons, List.length_nil, List.all_cons, List.all_nil, lisFz_fz, ltoFz_fz, beq_self_eq_true, jump_true, ifB_true, ifB_false, isF_pv, isPv_pv, toV_pv, isNil_nilp, isNil_pt, isPt_pt, toAg_ag, cell_ag, isAg_ag, fits_ag, Int.toNat_natCast, Bool.not_true, Bool.not_false, fits_int, fits_bool, fits_str, fits_sl, hl]
   rw [if_pos (by omega)] at s1 s2
   simp only [decide_eq_false g1, decide_eq_false g2, ifB_false, jump_true]
   rw [J_law12_ShowAlike_1_0_eq]
   simp only [← ND.enc_mk, onR_some, onL_some, List.isEmpty_nil, allF_cons, allF_nil, Bool.and_true, Bool.true_and, when_true', List.getD_cons_zero, List.getD_cons_succ, isF_fz, toF_fz, isBool_bool, toBool_bool, isInt_int, toInt_int, isStr_str, toStr_str, isSl_sl, toSl_sl, List.length_cons, List.length_nil, List.all_cons, List.all_nil, lisFz_fz, ltoFz_fz, beq_self_eq_true, jump_true, ifB_true, ifB_false, isF_pv, isPv_pv, toV_pv, isNil_nilp, isNil_pt, isPt_pt, toAg_ag, cell_ag, isAg_ag, fits_ag, Int.toNat_natCast, Bool.not_true, Bool.not_false, fits_int, fits_bool, fits_str, fits_sl, s1, s2, al, bytes_beq, hl]
end Go.Ab
end
section
namespace Go.Ab
open Go
section
variable {H : Type} {enc : TypeId × Value → H}
theorem cond_shaped {a : Assume} {C : Checked} {os : Os} {f : FuncId} {fn : Func} {s : OpenSpec} {k : (H : Type) → List (DataW H) → Bool} (hk : s.cond = some k) {F : Stop.Interp} {conds : List PathCond} {apart fresh handsOn again : Bool}
   (own : ownKnob C.prog.godebug = none) (started : os.Started) (noInit : C.prog.inits.idxOf? f = none) (hfn : C.prog.funcs[f]? = some fn)
   (witness : ∃ (w : World) (tape : Tape) (i : Input), w.os = os ∧ (w.forCall tape i).Shaped C.prog ∧ i.vars = [] ∧ Input.okWide C.prog (w.forCall tape i) .any w.heap.size f i ∧
     s.pre6 enc C.prog fn conds apart (w.forCall tape i).memory i.args ∧ a.holds C.prog (lone (Frame.enter C.prog f i.args .normal) [] (w.forCall tape i)))
   (contract : ∀ (W : World) (base : Nat) (args : Array Value) (ds gs : List (DataW H)) (before : List MemPlace),
     (∀ (j : Nat) t v, fn.params[j]? = some t → args[j]? = some v → Value.okWide C.prog W .any base t v) →
     DataW.Whole enc C.prog fn.params.toList s.vars apart W args.toList ds gs before →
     conds.all (PathCond.test C.prog ⟨fn.params.toList, ds, s.bare.plain.varTypes C.prog, gs⟩) = true → k H (ds ++ gs) = true →
     (DataW.weightsEach C.prog (fn.params.toList ++ s.bare.plain.varTypes C.prog) (ds ++ gs)).all (· ≤ reachBytes) = true →
     W.ShapedOpen C.prog →
     a.holds C.prog (lone (Frame.enter C.prog f args .normal) [] W) →
     Calls C.prog f args W fun e W' => ∃ v, e = .returned v ∧ (s.at F).post enc C.prog fn apart fresh handsOn again W args v W') :
   ReturnsInHanded a C os f .any (s.pre6 enc C.prog fn conds apart) ((s.at F).post enc C.prog fn apart fresh handsOn again) := by
 refine returnsInHanded_of_calls own started noInit witness ?_
 intro w tape i _ hsh _ hok hpre hholds
 obtain ⟨_, _, _, fn', hfn', _, _, _, _, hval⟩ := hok
 have e : fn' = fn := Option.some.inj (hfn'.symm.trans hfn)
 subst e
 obtain ⟨ds, gs, before, hw, hc, hkk⟩ := (OpenSpec.pre_some hk conds apart _ _).1 hpre.1
 have hw' := DataW.Whole.of_heap (w' := w.forCall tape i) (by rfl) hw
 refine (contract (w.forCall tape i) w.heap.size i.args ds gs before hval hw' hc hkk (hpre.2.weights hw) hsh hholds).mono fun e W' ⟨v, he, hp⟩ => ?_
 subst he
 exact ChangeSpec.post_blind hp
end
end Go.Ab
end
section
namespace Go.Proofs.Ytkolniefdijlhaa
open Go Rows
def smallT (P : Program) (M : Nat) (ts : List Nat) : Bool := ts.all fun t => match P.underlying t with
 | some (.slice e) => ts.elem e && Nat.ble (P.bytesOf e) M
 | some (.struct fs) => fs.toList.all fun f => ts.elem f.type
 | some (.array _ e) => ts.elem e
 | some (.pointer e) => ts.elem e
 | some (.map _ _) => false
 | _ => true
theorem bulk_pos {H : Type} (d : DataW H) : 1 ≤ uptoBulk d := by
 cases d with
 | lit l => cases l <;> simp [uptoBulk]
 | _ => simp [uptoBulk]
theorem bulk_length {H : Type} : ∀ l : List (DataW H), l.length ≤ uptoBulkAll l
 | [] => by simp [uptoBulkAll]
 | d :: r => by
  have := bulk_pos d
  have := bulk_length r
  simp only [uptoBulkAll, List.length_cons]; omega
section
variable {H : Type} {P : Program} {M : Nat} {ts : List Nat}
theorem small_of (hT : smallT P M ts = true) {t : Nat} (ht : ts.elem t = true) {ds : TypeDesc} (hu : P.underlying t = some ds) :
   (match ds with
     | .slice e => ts.elem e = true ∧ P.bytesOf e ≤ M
     | .struct fs => ∀ f ∈ fs.toList, ts.elem f.type = true
     | .array _ e => ts.elem e = true
     | .pointer e => ts.elem e = true
     | .map _ _ => False
     | _ => True) := by
 have h := List.all_eq_true.1 hT t (by simpa using ht)
 rw [hu] at h
 cases ds <;> simp only [] <;> simp only [Bool.and_eq_true, Bool.false_eq_true] at h <;> first | trivial | exact h | skip
 · exact ⟨h.1, Nat.le_of_ble_eq_true h.2⟩
 · intro f hf; exact List.all_eq_true.1 h f hf
theorem mul_up {a b n M : Nat} (h : n ≤ a * M) (hab : a ≤ b) : n ≤ b * M := Nat.le_trans h (Nat.mul_le_mul_right M hab)
mutual
theorem weights_small (hM : 1 ≤ M) (hT : smallT P M ts = true) : ∀ (d : DataW H) (t : TypeId), ts.elem t = true → ∀ n ∈ d.weights P t, n ≤ uptoBulk d * M
 | .lit l, t, ht, n, hn => by
  cases l with
  | string bytes =>
   simp only [DataW.weights, List.mem_singleton] at hn
   subst hn
   simp only [uptoBulk]
   exact Nat.le_trans (Nat.le_succ _) (Nat.le_mul_of_pos_right _ hM)
  | _ => simp [DataW.weights] at hn
 | .nil, t, ht, n, hn => by simp [DataW.weights] at hn
 | .ptr d, t, ht, n, hn => by
  simp only [DataW.weights] at hn
  split at hn
  ·rename_i e hu
   exact mul_up (weights_small hM hT d e (small_of hT ht hu) n hn) (by simp [uptoBulk])
  ·cases hn
 | .slice elems spare, t, ht, n, hn => by
  simp only [DataW.weights] at hn
  split at hn
  ·rename_i e hu
   obtain ⟨h1, h2⟩ := small_of hT ht hu
   rcases List.mem_cons.1 hn with rfl | hn
   ·have a := bulk_length elems
    have b := bulk_length spare
    refine Nat.le_trans (Nat.mul_le_mul_left _ h2) (Nat.mul_le_mul_right M ?_)
    simp only [uptoBulk]; omega
   ·rcases List.mem_append.1 hn with hn | hn
    ·exact mul_up (weightsAll_small hM hT elems e h1 n hn) (by simp only [uptoBulk]; omega)
    ·exact mul_up (weightsAll_small hM hT spare e h1 n hn) (by simp only [uptoBulk]; omega)
  ·cases hn
 | .agg parts, t, ht, n, hn => by
  simp only [DataW.weights] at hn
  split at hn
  ·rename_i fs hu
   have h1 := small_of hT ht hu
   exact mul_up (weightsEach_small hM hT parts (fs.toList.map (·.type)) (fun u hu => by obtain ⟨f, hf, rfl⟩ := List.mem_map.1 hu; exact h1 f hf) n hn) (by simp only [uptoBulk]; omega)
  ·rename_i k e hu
   exact mul_up (weightsAll_small hM hT parts e (small_of hT ht hu) n hn) (by simp only [uptoBulk]; omega)
  ·cases hn
 | .iface _ _, t, ht, n, hn => by simp [DataW.weights] at hn
 | .map entries, t, ht, n, hn => by
  simp only [DataW.weights] at hn
  split at hn
  ·rename_i k e hu
   exact (small_of hT ht hu).elim
  ·cases hn
 | .held _, t, ht, n, hn => by simp [DataW.weights] at hn
theorem weightsAll_small (hM : 1 ≤ M) (hT : smallT P M ts = true) : ∀ (l : List (DataW H)) (e : TypeId), ts.elem e = true → ∀ n ∈ DataW.weightsAll P e l, n ≤ uptoBulkAll l * M
 | [], e, he, n, hn => by simp [DataW.weightsAll] at hn
 | d :: r, e, he, n, hn => by
  simp only [DataW.weightsAll] at hn
  rcases List.mem_append.1 hn with hn | hn
  ·exact mul_up (weights_small hM hT d e he n hn) (by simp only [uptoBulkAll]; omega)
  ·exact mul_up (weightsAll_small hM hT r e he n hn) (by simp only [uptoBulkAll]; omega)
theorem weightsEach_small (hM : 1 ≤ M) (hT : smallT P M ts = true) : ∀ (l : List (DataW H)) (us : List TypeId), (∀ u ∈ us, ts.elem u = true) → ∀ n ∈ DataW.weightsEach P us l, n ≤ uptoBulkAll l * M
 | [], us, he, n, hn => by cases us <;> simp [DataW.weightsEach] at hn
 | d :: r, [], he, n, hn => by simp [DataW.weightsEach] at hn
 | d :: r, u :: us, he, n, hn => by
  simp only [DataW.weightsEach] at hn
  rcases List.mem_append.1 hn with hn | hn
  ·exact mul_up (weights_small hM hT d u (he u (List.mem_cons_self ..)) n hn) (by simp only [uptoBulkAll]; omega)
  ·exact mul_up (weightsEach_small hM hT r us (fun v hv => he v (List.mem_cons_of_mem _ hv)) n hn) (by simp only [uptoBulkAll]; omega)
end
theorem weights_upto (hM : 1 ≤ M) (hT : smallT P M ts = true) {l : List (DataW H)} {us : List TypeId} (hu : us.all (ts.elem ·) = true) (hk : uptoSmall H l = true) : ∀ n ∈ DataW.weightsEach P us l, n ≤ 1048576 * M := fun n hn =>
  mul_up (weightsEach_small hM hT l us (fun u h => List.all_eq_true.1 hu u h) n hn) (of_decide_eq_true hk)
end
end Go.Proofs.Ytkolniefdijlhaa
end
section
namespace Go.Proofs.Ytkolniefdijlhaa.showAlike
open Go.ChangeShapes Go.WideShapes Go.ChangeAt Go.RowKit Go.Ab
theorem own : ownKnob Try.prog.godebug = none := by kernel_rfl
theorem laidOut : laidOutB Try.prog = true := by kernel_rfl
theorem closedE : closedT Try.prog 40 [27, 9] = true := by kernel_rfl
theorem globs (W : World) (h : W.ShapedOpen Try.prog) : GlobOK Try.prog W (fun b => b < W.heap.size) := fun g hg => by
 have e : Try.prog.globals.findIdx? (·.name == "internal/bytealg.MaxLen") = some 0 := by kernel_rfl
 rw [e] at hg; cases hg
 obtain ⟨m, hm⟩ := cell_of_shapedOpen_int (k := .i64) (zero := #[.int .i64 0]) (t := 3) h (of_decide_eq_true (by kernel_rfl)) (by kernel_rfl) rfl (by kernel_rfl) (by kernel_rfl) Try.underlying3
 refine ⟨?_, m, hm⟩
 rcases Nat.lt_or_ge 0 W.heap.size with hl | hl
 ·exact hl
 ·simp [World.cell?, Array.getElem?_eq_none hl] at hm
set_option maxRecDepth 100000 in
theorem lifted (os : Os) (started : os.Started) (H : Type) (enc : TypeId × Value → H) (F : Stop.Interp) :
   ReturnsInHanded {} Try.checked os 6 .any ((Rows.OpenSpec.upto Rows.showAlikeSpec).pre6 enc Try.prog Try.f6 Rows.showAlikeUptoRow.domain false) (((Rows.OpenSpec.upto Rows.showAlikeSpec).at F).post enc Try.prog Try.f6 false true false false) := by
 refine Go.Ab.cond_shaped (C := Try.checked) (s := (Rows.OpenSpec.upto Rows.showAlikeSpec)) (k := Rows.uptoSmall) rfl own started (by kernel_rfl) Try.func6
   (OpenSpec.witness (enc := enc) (C := Try.checked) (s := (Rows.OpenSpec.upto Rows.showAlikeSpec)) (k := Rows.uptoSmall) rfl false ⟨#[], #[.int .i64 0, .agg #[.int .i64 0, .int .i64 0, .int .i64 0, .int .i64 0, .int .i64 0, .string ByteArray.empty, .slice none 0 0, .slice none 0 0, .int .i64 0, .int .i64 0, .int .i64 0, .int .i64 0, .int .i64 0, .string ByteArray.empty, .slice none 0 0, .slice none 0 0], .int .i64 0], []⟩ 8 (by kernel_rfl) (by kernel_rfl) (by kernel_rfl)
     (x := ([.lit (.int .i64 0), .agg [.agg [.lit (.int .i64 0), .lit (.int .i64 0), .lit (.int .i64 0), .agg [.lit (.int .i64 0), .lit (.int .i64 0)], .lit (.string []), .nil, .nil], .agg [.lit (.int .i64 0), .lit (.int .i64 0), .lit (.int .i64 0), .agg [.lit (.int .i64 0), .lit (.int .i64 0)], .lit (.string []), .nil, .nil]], .lit (.int .i64 0)], [], [])) (by kernel_rfl) rfl (by kernel_rfl)) ?_
 intro W base args ds gs before hval0 hW hcnd hk0 hsz0 hsh _
 have hsz : ∀ n ∈ DataW.weightsEach Try.prog (Try.f6.params.toList ++ Rows.showAlikeSpec.plain.varTypes Try.prog) (ds ++ gs), n ≤ 134217728 := weights_upto (M := 128) (ts := [3, 49, 27, 23, 9, 24, 25, 2]) (by omega) (by kernel_rfl) (by kernel_rfl) hk0
 have hval : ∀ (j : Nat) t v, Try.f6.params[j]? = some t → args[j]? = some v → Value.okWide Try.prog W .any base t v := hval0
 have hW' := hW
 obtain ⟨p, q, hA0, hV, rfl, hfz, hnd⟩ := hW
 have hA : DataW.TrodAll enc Try.prog W 0 (fun _ => true) true Try.f6.params.toList args.toList ds p := hA0
 rw [Try.params6] at hA hval hsz
 obtain ⟨v0, vs0, d0, ds0, p0, q0, hargs, rfl, rfl, h0, r0⟩ := trodAll_cons hA
 obtain ⟨v1, vs1, d1, ds1, p1, q1, rfl, rfl, rfl, h1, r1⟩ := trodAll_cons r0
 obtain ⟨v2, vs2, d2, ds2, p2, q2, rfl, rfl, rfl, h2, r2⟩ := trodAll_cons r1
 obtain ⟨rfl, rfl, rfl⟩ := trodAll_nil r2
 obtain rfl : args = #[v0, v1, v2] := by cases args; simp_all
 obtain ⟨rfl, rfl⟩ := trodVars_none hV
 have k0 := h0
 have lt0 : ∀ x ∈ p0, x.block < W.heap.size := by obtain ⟨m, hm⟩ := k0; exact DataW.trod_lt m _ _ _ hm
 obtain ⟨f0, R0, V0⟩ := read_value closedE (t := 3) (by kernel_rfl) (hval 0 3 v0 rfl rfl) k0 (fun k hk => hsz k (DataW.weights_mem_each (j := 0) (t := 3) rfl rfl k hk))
 have k1 := h1
 have lt1 : ∀ x ∈ p1, x.block < W.heap.size := by obtain ⟨m, hm⟩ := k1; exact DataW.trod_lt m _ _ _ hm
 obtain ⟨f1, R1, V1⟩ := read_value closedE (t := 49) (by kernel_rfl) (hval 1 49 v1 rfl rfl) k1 (fun k hk => hsz k (DataW.weights_mem_each (j := 1) (t := 49) rfl rfl k hk))
 have k2 := h2
 have lt2 : ∀ x ∈ p2, x.block < W.heap.size := by obtain ⟨m, hm⟩ := k2; exact DataW.trod_lt m _ _ _ hm
 obtain ⟨f2, R2, V2⟩ := read_value closedE (t := 3) (by kernel_rfl) (hval 2 3 v2 rfl rfl) k2 (fun k hk => hsz k (DataW.weights_mem_each (j := 2) (t := 3) rfl rfl k hk))
 clear hA0 hval0 hsz0 hsz hk0
 have hp := pure_ShowAlike f0 f1 f2 V0 V1 V2
 obtain ⟨k, hk⟩ := RR_tells.1 hp
 refine (law_calls tab_ok (fs := [f0, f1, f2]) (args := #[v0, v1, v2]) (W := W) hk (globs _ hsh) ⟨R0, R1, R2, trivial⟩).mono fun e W' ⟨he, bel⟩ => ?_
 subst he
 exact ⟨_, rfl, _, _, _, [], _, [], hW', trodAll_mk1 (shut_bool Try.underlying4 _), (trodAll_cons_mk (Below.trod laidOut (by kernel_rfl) (of_decide_eq_true (by kernel_rfl)) k0 bel lt0) (trodAll_cons_mk (Below.trod laidOut (by kernel_rfl) (of_decide_eq_true (by kernel_rfl)) k1 bel lt1) (trodAll_cons_mk (Below.trod laidOut (by kernel_rfl) (of_decide_eq_true (by kernel_rfl)) k2 bel lt2) trodAll_mk0))), rfl, bel.frame _, fun h => by cases h⟩
theorem proved : Rows.ShowAlikeUptoSaid :=
 OpenClaim.holds_of_cond 6 Try.f6 rfl rfl rfl rfl rfl rfl rfl ⟨rfl, rfl, rfl, rfl, rfl⟩ rfl rfl rfl rfl rfl (by kernel_rfl) Try.func6 (by kernel_rfl)
  (of_decide_eq_true (by kernel_rfl)) (by unfold Func.isWrapper; first | (rw [if_pos (by decide +kernel)]; kernel_rfl) | (rw [if_neg (by decide +kernel)]; exact ⟨rfl, rfl⟩))
  (fun os started H enc _ F => lifted os started H enc F)
#print axioms proved
end Go.Proofs.Ytkolniefdijlhaa.showAlike
namespace Go.Proofs.Ytkolniefdijlhaa
theorem showAlike_upto : Rows.ShowAlikeUptoSaid := showAlike.proved
end Go.Proofs.Ytkolniefdijlhaa
end
