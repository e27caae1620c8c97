/- The reference: a node without its labels, its shape, whether it may be. -/
import Derived.Test.YtdpfpdejipkffaaSNode1
import Derived.Test.YtdpfpdejipkffaaSIsR
namespace Go.Ab
set_option linter.unusedVariables false
set_option linter.unusedSimpArgs false

mutual
def strip : ND → JV
  | .mk _ _ k c s t is ks => .mk k c s t (strips is) ks
def strips : List ND → List JV
  | [] => []
  | v :: r => strip v :: strips r
end
theorem strips_eq : ∀ l : List ND, strips l = l.map strip
  | [] => by simp [strips]
  | v :: r => by simp [strips, strips_eq r]
theorem strip_mk (a d k c s : Int) (t : ByteArray) (is : List ND) (ks : List ByteArray) : strip (.mk a d k c s t is ks) = .mk k c s t (is.map strip) ks := by simp [strip, strips_eq]
theorem strip_ok {v : ND} (hv : v.Sm) : Rt N_ref09_Strip [.fz v.enc] = some ([.fz (strip v).enc], []) := by
  induction hv with
  | @mk a d k c s t is ks hi hk ht hs h ih =>
    have hroom : roomy = 140737488355328 := rfl
    have z2 : ∀ (z0 z1 z2 : Int) (z3 : ByteArray) (j i : Nat) (acc : List JV), i + j = is.length → acc.length = i → onL (L_ref09_Strip_1_2 Rt (is.length + 1) true (j + 1) i a d k c s t (is.map ND.enc) (ks.map .str) z0 z1 z2 z3 k c s t (acc.map JV.enc)) (K_ref09_Strip_1 Rt (is.length + 1) true) = some ([.fz (JV.mk k c s t (acc ++ (is.drop i).map strip) []).enc], []) := by
      intro z0 z1 z2 z3 j
      induction j with
      | zero =>
        intro i acc hij hac
        rw [L_ref09_Strip_1_2_eq, List.drop_eq_nil_of_le (by omega), JV.enc_mk]
        simp [show ¬ ((i : Int) < (is.length : Int)) by omega, onL_some, X_ref09_Strip_1_2_eq]
      | succ j jh =>
        intro i acc hij hac
        have hl : i < is.length := by omega
        have h1 := ih is[i] (List.getElem_mem hl)
        have h2 := jh (i + 1) (acc ++ [strip is[i]]) (by omega) (by simp; omega)
        push_cast at h2
        rw [List.map_append, List.map_singleton, List.append_assoc, List.singleton_append] at h2
        have hw : IntKind.wrap .i64 ((i : Int) + 1) = (i : Int) + 1 := wrap64 (by omega) (by omega)
        have hro : (decide (((acc.map JV.enc).length + [(strip is[i]).enc].length) * 88 ≤ roomy) && decide ((acc.map JV.enc).length + [(strip is[i]).enc].length ≤ roomy)) = true := by simp; omega
        rw [L_ref09_Strip_1_2_eq, drop_cons hl, List.map_cons]
        have hg : (is.map ND.enc).getD i .nilp = (is[i]).enc := by simp [hl]
        simp only [List.length_map, decide_eq_true (show (i : Int) < (is.length : Int) by omega), decide_eq_true (show (0 : Int) ≤ (i : Int) by omega), ifB_true, Bool.and_true, when_true', Int.toNat_natCast, hg, ND.enc_fits, h1, onR_some, List.isEmpty_nil, allF_cons, allF_nil, List.getD_cons_zero, toF_fz, JV.enc_fits, hw] at hro ⊢
        simp only [hro, when_true', h2]
    have z3 : ∀ (z0 z1 z2 : Int) (z3 : ByteArray) (j i : Nat) (acc : List JV), i + j = is.length → acc.length = i → onL (L_ref09_Strip_1_3 Rt (is.length + 1) true (j + 1) i a d k c s t (is.map ND.enc) (ks.map .str) z0 z1 z2 z3 k c s t (acc.map JV.enc) (ks.map .str)) (K_ref09_Strip_1 Rt (is.length + 1) true) = some ([.fz (JV.mk k c s t (acc ++ (is.drop i).map strip) ks).enc], []) := by
      intro z0 z1 z2 z3 j
      induction j with
      | zero =>
        intro i acc hij hac
        rw [L_ref09_Strip_1_3_eq, List.drop_eq_nil_of_le (by omega), JV.enc_mk]
        simp [show ¬ ((i : Int) < (is.length : Int)) by omega, onL_some, X_ref09_Strip_1_3_eq]
      | succ j jh =>
        intro i acc hij hac
        have hl : i < is.length := by omega
        have h1 := ih is[i] (List.getElem_mem hl)
        have h2 := jh (i + 1) (acc ++ [strip is[i]]) (by omega) (by simp; omega)
        push_cast at h2
        rw [List.map_append, List.map_singleton, List.append_assoc, List.singleton_append] at h2
        have hw : IntKind.wrap .i64 ((i : Int) + 1) = (i : Int) + 1 := wrap64 (by omega) (by omega)
        have hro : (decide (((acc.map JV.enc).length + [(strip is[i]).enc].length) * 88 ≤ roomy) && decide ((acc.map JV.enc).length + [(strip is[i]).enc].length ≤ roomy)) = true := by simp; omega
        rw [L_ref09_Strip_1_3_eq, drop_cons hl, List.map_cons]
        have hg : (is.map ND.enc).getD i .nilp = (is[i]).enc := by simp [hl]
        simp only [List.length_map, decide_eq_true (show (i : Int) < (is.length : Int) by omega), decide_eq_true (show (0 : Int) ≤ (i : Int) by omega), ifB_true, Bool.and_true, when_true', Int.toNat_natCast, hg, ND.enc_fits, h1, onR_some, List.isEmpty_nil, allF_cons, allF_nil, List.getD_cons_zero, toF_fz, JV.enc_fits, hw] at hro ⊢
        simp only [hro, when_true', h2]
    rw [strip_mk]
    refine rt_call A_ref09_Strip rfl rfl (is.length + 1) ?_
    rw [ND.enc_mk, E_ref09_Strip]
    have hr0 : (decide (((0 : Nat) + (ks.map FV.str).length) * 16 ≤ roomy) && decide ((0 : Nat) + (ks.map FV.str).length ≤ roomy)) = true := by simp; omega
    rw [all_fits_str, when_true', hr0, when_true']
    have hone : ∀ x : JV, (decide (((0 : Nat) + [x.enc].length) * 88 ≤ roomy) && decide ((0 : Nat) + [x.enc].length ≤ roomy)) = true := fun x => rfl
    have w0 : IntKind.wrap .i64 ((0 : Int) + 1) = ((1 : Nat) : Int) := by rw [wrap64 (by omega) (by omega)]; rfl
    have d0 : decide ((0 : Int) ≤ 0) = true := by decide
    have t0 : (0 : Int).toNat = 0 := rfl
    cases ks with
    | nil =>
      rw [show (List.map FV.str ([] : List ByteArray)).isEmpty = true from rfl, ifB_true, L_ref09_Strip_1_0_eq]
      cases is with
      | nil => simp [onL_some, X_ref09_Strip_1_0_eq, JV.enc_mk]
      | cons x xs =>
        have h1 := ih x (List.mem_cons_self ..)
        have h2 := z2 0 0 0 (⟨#[]⟩ : ByteArray) (xs.length - 0) 1 [strip x] (by simp; omega) rfl
        have hz := hone (strip x)
        simp only [List.map_cons, List.map_nil, List.length_cons, List.length_map, decide_eq_true (show (0 : Int) < ((xs.length + 1 : Nat) : Int) by omega), d0, t0, ifB_true, Bool.and_true, when_true', List.getD_cons_zero, ND.enc_fits, h1, onR_some, List.isEmpty_nil, allF_cons, allF_nil, toF_fz, JV.enc_fits, w0, Nat.sub_zero, List.drop_succ_cons, List.drop_zero, List.singleton_append] at h2 hz ⊢
        simp only [hz, when_true']
        exact h2
    | cons y ys =>
      rw [show (List.map FV.str (y :: ys)).isEmpty = false from rfl, ifB_false, L_ref09_Strip_1_1_eq]
      cases is with
      | nil => simp [onL_some, X_ref09_Strip_1_1_eq, JV.enc_mk]
      | cons x xs =>
        have h1 := ih x (List.mem_cons_self ..)
        have h2 := z3 0 0 0 (⟨#[]⟩ : ByteArray) (xs.length - 0) 1 [strip x] (by simp; omega) rfl
        have hz := hone (strip x)
        simp only [List.map_cons, List.map_nil, List.length_cons, List.length_map, decide_eq_true (show (0 : Int) < ((xs.length + 1 : Nat) : Int) by omega), d0, t0, ifB_true, Bool.and_true, when_true', List.getD_cons_zero, ND.enc_fits, h1, onR_some, List.isEmpty_nil, allF_cons, allF_nil, toF_fz, JV.enc_fits, w0, Nat.sub_zero, List.drop_succ_cons, List.drop_zero, List.singleton_append] at h2 hz ⊢
        simp only [hz, when_true']
        exact h2

def JV.z0 : JV := .mk 0 0 0 ⟨#[]⟩ [] []
theorem JV.z0_enc : JV.z0.enc = .ag [.int .i64 0, .int .i64 0, .int .i64 0, .str ⟨#[]⟩, .sl [], .sl []] := by simp [JV.z0, JV.enc_mk]
def preB (k : Int) (li lk : Nat) : Bool := !((k == 6) && ((lk : Int) != (li : Int))) && !((k != 5) && ((k != 6) && decide ((li : Int) > 0)))
mutual
def shapeB : JV → Bool
  | .mk k c s t is ks => preB k is.length ks.length && (isR (.mk k c s t (List.replicate ks.length JV.z0) ks) 0 && shapeBs is)
def shapeBs : List JV → Bool
  | [] => true
  | v :: r => shapeB v && shapeBs r
end
theorem shapeB_mk (k c s : Int) (t : ByteArray) (is : List JV) (ks : List ByteArray) : shapeB (.mk k c s t is ks) = (preB k is.length ks.length && (isR (.mk k c s t (List.replicate ks.length JV.z0) ks) 0 && shapeBs is)) := by simp [shapeB]

/-- No list in a value is great, and no text. -/
inductive JV.Tiny : JV → Prop where
  | mk {k c s : Int} {t : ByteArray} {is : List JV} {ks : List ByteArray} (hi : is.length ≤ 134217728) (hk : ks.length ≤ 134217728) (ht : t.size ≤ 134217728) (hs : ∀ s ∈ ks, s.size ≤ 134217728) (h : ∀ v ∈ is, JV.Tiny v) : (JV.mk k c s t is ks).Tiny
theorem strip_tiny {v : ND} (hv : v.Sm) : (strip v).Tiny := by
  induction hv with
  | @mk a d k c s t is ks hi hk ht hs h ih =>
    rw [strip_mk]
    exact .mk (by simpa using hi) hk ht hs (fun v hv => by obtain ⟨x, hx, rfl⟩ := List.mem_map.1 hv; exact ih x hx)
theorem shape_ok {v : JV} (hv : v.Tiny) : Rt N_ref09_shape [.fz v.enc] = some ([.fz (.bool (shapeB v))], []) := by
  induction hv with
  | @mk k c s t is ks hi hk ht hs h ih =>
    have hroom : roomy = 140737488355328 := rfl
    let K := is.length + ks.length + 2
    have loop2 : ∀ (j : Nat) (i f : Nat), i + j = is.length → j < f → onL (L_ref09_shape_2_0 Rt K true f i k c s t (is.map JV.enc) (ks.map .str)) (K_ref09_shape_2 Rt K true) = some ([.fz (.bool (shapeBs (is.drop i)))], []) := by
      intro j
      induction j with
      | zero =>
        intro i f hij hf
        obtain ⟨f, rfl⟩ : ∃ g, f = g + 1 := ⟨f - 1, by omega⟩
        rw [L_ref09_shape_2_0_eq, List.drop_eq_nil_of_le (by omega)]
        simp [show ¬ ((i : Int) < (is.length : Int)) by omega, onL_some, X_ref09_shape_2_1_eq, shapeBs]
      | succ j jh =>
        intro i f hij hf
        obtain ⟨f, rfl⟩ : ∃ g, f = g + 1 := ⟨f - 1, by omega⟩
        have hl : i < is.length := by omega
        have h1 := ih is[i] (List.getElem_mem hl)
        have h2 := jh (i + 1) f (by omega) (by omega)
        push_cast at h2
        have hw : IntKind.wrap .i64 ((i : Int) + 1) = (i : Int) + 1 := wrap64 (by omega) (by omega)
        rw [L_ref09_shape_2_0_eq, drop_cons hl, shapeBs]
        cases hq : shapeB is[i] with
        | true =>
          rw [hq] at h1
          simp [show (i : Int) < (is.length : Int) by omega, List.getElem?_eq_getElem hl, h1, onR_some, hw, h2]
        | false =>
          rw [hq] at h1
          simp [show (i : Int) < (is.length : Int) by omega, List.getElem?_eq_getElem hl, h1, onR_some, onL_some, X_ref09_shape_2_0_eq]
    have l2 := loop2 is.length 0 K (by omega) (by omega)
    rw [show ((0 : Nat) : Int) = 0 from rfl, List.drop_zero] at l2
    have wsm : (JV.mk k c s t (List.replicate ks.length JV.z0) ks).Sm ∧ (JV.mk k c s t (List.replicate ks.length JV.z0) ks).Short := by
      have zs : JV.z0.Sm := .mk (by simp) (by simp) (fun v h => by cases h)
      have zh : JV.z0.Short := .mk (by simp [ByteArray.size]) (fun v h => by cases h) (fun v h => by cases h)
      exact ⟨.mk (by simp; omega) (by omega) (fun v hv => by rw [List.eq_of_mem_replicate hv]; exact zs), .mk (by omega) (fun s h => by have := hs s h; omega) (fun v hv => by rw [List.eq_of_mem_replicate hv]; exact zh)⟩
    have hIs := is_ok wsm.1 wsm.2 0
    rw [JV.enc_mk, List.map_replicate] at hIs
    have fin : ∀ (l : List FV), l = List.replicate ks.length JV.z0.enc → (onR (Rt N_ref05_Is [.fz (.ag [.int .i64 k, .int .i64 c, .int .i64 s, .str t, .sl l, .sl (ks.map .str)]), .fz (.int .i64 0)]) fun r1 => when (List.isEmpty r1.2 && allF [.fz] r1.1) (when (FV.isBool (TV.toF (List.getD r1.1 0 TV.em))) (ifB (!(FV.toBool (TV.toF (List.getD r1.1 0 TV.em))))
        (some ([.fz (.bool false)], [])) (onL (L_ref09_shape_2_0 Rt K true K 0 k c s t (is.map JV.enc) (ks.map .str)) (K_ref09_shape_2 Rt K true))))) = some ([.fz (.bool (isR (.mk k c s t (List.replicate ks.length JV.z0) ks) 0 && shapeBs is))], []) := fun l hl => by
      rw [hl, hIs]
      cases isR (.mk k c s t (List.replicate ks.length JV.z0) ks) 0 with
      | false => simp only [onR_some, List.isEmpty_nil, allF_cons, allF_nil, Bool.and_true, when_true', List.getD_cons_zero, toF_fz, isBool_bool, toBool_bool, Bool.not_false, ifB_true, Bool.false_and]
      | true => simp only [onR_some, List.isEmpty_nil, allF_cons, allF_nil, Bool.and_true, when_true', List.getD_cons_zero, toF_fz, isBool_bool, toBool_bool, Bool.not_true, ifB_false, l2, Bool.true_and]
    have loop1 : ∀ (j : Nat) (i f : Nat), i + j = ks.length → j < f → onL (L_ref09_shape_1_1 Rt K true f i k c s t (is.map JV.enc) (ks.map .str) k c s t (ks.map .str) (List.replicate i JV.z0.enc)) (K_ref09_shape_1 Rt K true) = some ([.fz (.bool (isR (.mk k c s t (List.replicate ks.length JV.z0) ks) 0 && shapeBs is))], []) := by
      intro j
      induction j with
      | zero =>
        intro i f hij hf
        obtain ⟨f, rfl⟩ : ∃ g, f = g + 1 := ⟨f - 1, by omega⟩
        rw [L_ref09_shape_1_1_eq, List.length_map, decide_eq_false (show ¬ ((i : Int) < (ks.length : Int)) by omega), ifB_false, onL_some, X_ref09_shape_1_1_eq]
        exact fin _ (by rw [show i = ks.length by omega])
      | succ j jh =>
        intro i f hij hf
        obtain ⟨f, rfl⟩ : ∃ g, f = g + 1 := ⟨f - 1, by omega⟩
        have h2 := jh (i + 1) f (by omega) (by omega)
        push_cast at h2
        have hw : IntKind.wrap .i64 ((i : Int) + 1) = (i : Int) + 1 := wrap64 (by omega) (by omega)
        have hro : (decide (((List.replicate i JV.z0.enc).length + [JV.z0.enc].length) * 88 ≤ roomy) && decide ((List.replicate i JV.z0.enc).length + [JV.z0.enc].length ≤ roomy)) = true := by simp; omega
        have hap : List.replicate i JV.z0.enc ++ [JV.z0.enc] = List.replicate (i + 1) JV.z0.enc := by rw [List.replicate_succ']
        rw [L_ref09_shape_1_1_eq, List.length_map, decide_eq_true (show (i : Int) < (ks.length : Int) by omega), ifB_true, ← JV.z0_enc, hro, when_true', hw, hap]
        exact h2
    have l1 : onL (L_ref09_shape_1_0 Rt K true K 0 k c s t (is.map JV.enc) (ks.map .str) k c s t (ks.map .str)) (K_ref09_shape_1 Rt K true) = some ([.fz (.bool (isR (.mk k c s t (List.replicate ks.length JV.z0) ks) 0 && shapeBs is))], []) := by
      show onL (L_ref09_shape_1_0 Rt K true (is.length + ks.length + 1 + 1) 0 k c s t (is.map JV.enc) (ks.map .str) k c s t (ks.map .str)) (K_ref09_shape_1 Rt K true) = _
      rw [L_ref09_shape_1_0_eq, List.length_map]
      by_cases hk0 : ks.length = 0
      · rw [decide_eq_false (show ¬ ((0 : Int) < (ks.length : Int)) by omega), ifB_false, onL_some, X_ref09_shape_1_0_eq]
        exact fin [] (by rw [hk0]; rfl)
      · have h2 := loop1 (ks.length - 1) 1 (is.length + ks.length + 1) (by omega) (by omega)
        have w0 : IntKind.wrap .i64 ((0 : Int) + 1) = ((1 : Nat) : Int) := by rw [wrap64 (by omega) (by omega)]; rfl
        have hro : (decide (((0 : Nat) + [JV.z0.enc].length) * 88 ≤ roomy) && decide ((0 : Nat) + [JV.z0.enc].length ≤ roomy)) = true := rfl
        rw [decide_eq_true (show (0 : Int) < (ks.length : Int) by omega), ifB_true, ← JV.z0_enc, hro, when_true', w0]
        exact h2
    have j3 : J_ref09_shape_3_0 Rt K true k c s t (is.map JV.enc) (ks.map .str) k c s t (ks.map .str) = some ([.fz (.bool (isR (.mk k c s t (List.replicate ks.length JV.z0) ks) 0 && shapeBs is))], []) := by
      rw [J_ref09_shape_3_0_eq]; exact l1
    refine rt_call A_ref09_shape rfl rfl K ?_
    rw [JV.enc_mk, E_ref09_shape, shapeB_mk]
    simp only [jump_true, j3, List.length_map]
    unfold preB
    cases (k == 6) <;> cases ((ks.length : Int) != (is.length : Int)) <;> cases (k != 5) <;> cases (k != 6) <;> cases decide ((is.length : Int) > 0) <;> simp
theorem nis9_ok {t9 : List FV} {L : Lt} (T : IsTab t9 L) (O : L.Ok) {v : ND} (hv : v.Sm) : Rt N_ref09_Is [.fz (.sl t9), .fz v.enc] = some ([.fz (.bool (labB L v && (rightB L v && shapeB (strip v))))], []) := by
  have h1 := labels_ok T hv
  have h2 := right_ok T O hv
  have h3 := strip_ok hv
  have h4 := shape_ok (strip_tiny hv)
  obtain ⟨a, d, k, c, s, t, is, ks⟩ := v
  have hE := E_ref09_Is Rt 0 true t9 a d k c s t (is.map ND.enc) (ks.map .str)
  rw [← ND.enc_mk] at hE
  refine rt_call A_ref09_Is rfl rfl 0 (hE.trans ?_)
  rw [h1]
  cases hl : labB L (ND.mk a d k c s t is ks) with
  | false => simp only [onR_some, List.isEmpty_nil, allF_cons, allF_nil, Bool.and_true, when_true', List.getD_cons_zero, toF_fz, isBool_bool, toBool_bool, ifB_false, Bool.false_and]
  | true =>
    rw [h2 hl]
    cases hr : rightB L (ND.mk a d k c s t is ks) with
    | false => simp only [onR_some, List.isEmpty_nil, allF_cons, allF_nil, Bool.and_true, when_true', List.getD_cons_zero, toF_fz, isBool_bool, toBool_bool, ifB_true, ifB_false, Bool.false_and, Bool.true_and]
    | true => simp only [onR_some, List.isEmpty_nil, allF_cons, allF_nil, Bool.and_true, when_true', List.getD_cons_zero, toF_fz, isBool_bool, toBool_bool, ifB_true, Bool.true_and, h3, h4]
end Go.Ab
