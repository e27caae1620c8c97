/- JvalPuts: the plain law. -/
import Derived.Test.YtjkdheebgmnpmaaSLives5
import Derived.Test.YtjkdheebgmnpmaaSRead0
import Derived.Test.YtjkdheebgmnpmaaSEnts
namespace Go.Ab
open Go.Proofs
set_option linter.unusedSectionVars false
set_option linter.unusedVariables false
set_option linter.unusedSimpArgs false

theorem le_false {a b : ByteArray} (h : Lt a b) : (Op.bytesLess b.toList a.toList || b.toList == a.toList) = false := by
  have h1 : Op.bytesLess b.toList a.toList = false := blt_false.2 h.asymm
  rw [h1, eq_beq]
  simp [h.ne.symm]
theorem le_true {a b : ByteArray} (h : ¬ Lt a b) : (Op.bytesLess b.toList a.toList || b.toList == a.toList) = true := by
  rcases Lt.tri a b with x | x | x
  · exact absurd x h
  · subst x; simp
  · have h1 : Op.bytesLess b.toList a.toList = true := blt_iff.2 x
    rw [h1]; rfl

theorem rises_of_adj : ∀ {l : Ents}, (∀ m, (h : m + 1 < l.length) → Lt l[m].1 l[m + 1].1) → Rises l
  | [], _ => trivial
  | [_], _ => trivial
  | a :: b :: r, h => ⟨h 0 (by simp), rises_of_adj fun m hm => h (m + 1) (by simp at hm ⊢; omega)⟩
theorem rises_adj : ∀ {l : Ents}, Rises l → ∀ m, (h : m + 1 < l.length) → Lt l[m].1 l[m + 1].1
  | [], _, m, h => by simp at h
  | [_], _, m, h => by simp at h
  | a :: b :: r, hr, 0, h => hr.1
  | a :: b :: r, hr, m + 1, h => rises_adj hr.2 m (by simp at h ⊢; omega)

theorem objV_enc (c s : Int) (t : ByteArray) (l : Ents) : (objV c s t l).enc = .ag [.int .i64 6, .int .i64 c, .int .i64 s, .str t, .sl ((l.map Prod.snd).map JV.enc), .sl ((l.map Prod.fst).map .str)] := JV.enc_mk ..

section
variable (c s : Int) (t : ByteArray) (l : Ents) (key other : ByteArray) (v : JV) (pe : FV)

theorem puts_loop3 (K : Nat) (x21 : Int) (hlen : l.length ≤ 1152921504606846976) (hrise : Rises l) (hs : ∀ x ∈ l, x.2.Sm)
    (hget : ∀ k, Rt N_jval_Get [.fz pe, .fz (.str k)] = some ([.fz (match look (ins l key v) k with | some w => w.enc | none => JV.zero.enc), .fz (.bool (look (ins l key v) k).isSome)], []))
    (hfin : K_law05_JvalPuts_3 Rt K true (.exit 4) (X_law05_JvalPuts_3_1 x21 pe) = some ([.fz (.bool true)], [])) :
    ∀ (j i : Nat), l.length ≤ i + j → onL (L_law05_JvalPuts_3_0 Rt K true (j + 1) key x21 i 6 c s t ((l.map Prod.snd).map JV.enc) ((l.map Prod.fst).map .str) pe) (K_law05_JvalPuts_3 Rt K true) = some ([.fz (.bool true)], []) := by
  intro j
  induction j with
  | zero =>
    intro i hij
    rw [L_law05_JvalPuts_3_0_eq]
    simp [-List.map_map, show ¬ ((i : Int) < (l.length : Int)) by omega, onL_some, hfin]
  | succ j jh =>
    intro i hij
    by_cases hl : i < l.length
    case neg =>
      rw [L_law05_JvalPuts_3_0_eq]
      simp [-List.map_map, show ¬ ((i : Int) < (l.length : Int)) by omega, onL_some, hfin]
    have h2 := jh (i + 1) (by omega)
    push_cast at h2
    have hw : IntKind.wrap .i64 ((i : Int) + 1) = (i : Int) + 1 := wrap64 (by omega) (by omega)
    have hg := hget l[i].1
    rw [L_law05_JvalPuts_3_0_eq]
    have hmem : l[i] ∈ l := List.getElem_mem hl
    by_cases hk : l[i].1 = key
    · have hlk : look (ins l key v) l[i].1 = some v := by rw [hk]; exact look_ins_same l key v
      rw [hlk] at hg
      have hbe := bytes_beq l[i].1 key
      rw [decide_eq_true hk] at hbe
      simp at hg
      simp [-List.map_map, show (i : Int) < (l.length : Int) by omega, List.getElem?_eq_getElem hl, hg, onR_some, hbe, hw, h2]
    · have hlk : look (ins l key v) l[i].1 = some l[i].2 := by rw [look_ins_other hk]; exact look_mem hrise _ hmem
      rw [hlk] at hg
      have hbe := bytes_beq l[i].1 key
      rw [decide_eq_false hk] at hbe
      have hsame := same_ok (hs _ hmem) l[i].2
      rw [sameB_self] at hsame
      simp at hg
      simp [-List.map_map, show (i : Int) < (l.length : Int) by omega, List.getElem?_eq_getElem hl, hg, onR_some, hbe, hw, h2, hsame]

theorem puts_loop2 (K : Nat) (x21 : Int) (q : Ents) (hlen : q.length ≤ 1152921504606846976) (hrise : Rises q) (ha : FV.isAg 6 pe = true) (h5 : FV.cell pe 5 = .sl ((q.map Prod.fst).map .str))
    (hfin : K_law05_JvalPuts_2 Rt K true (.exit 2) (X_law05_JvalPuts_2_1 key x21 6 c s t ((l.map Prod.snd).map JV.enc) ((l.map Prod.fst).map .str) pe) = some ([.fz (.bool true)], [])) :
    ∀ (j m : Nat), q.length ≤ m + 1 + j → onL (L_law05_JvalPuts_2_0 Rt K true (j + 1) key x21 ((m : Int) + 1) 6 c s t ((l.map Prod.snd).map JV.enc) ((l.map Prod.fst).map .str) pe) (K_law05_JvalPuts_2 Rt K true) = some ([.fz (.bool true)], []) := by
  intro j
  induction j with
  | zero =>
    intro m hm
    rw [L_law05_JvalPuts_2_0_eq]
    simp [-List.map_map, ha, h5, show ¬ ((m : Int) + 1 < (q.length : Int)) by omega, onL_some, hfin]
  | succ j jh =>
    intro m hm
    by_cases hl : m + 1 < q.length
    · have h2 := jh (m + 1) (by omega)
      push_cast at h2
      have hw : IntKind.wrap .i64 ((m : Int) + 1 + 1) = (m : Int) + 1 + 1 := wrap64 (by omega) (by omega)
      have hw2 : IntKind.wrap .i64 ((m : Int) + 1 - 1) = (m : Int) := by rw [wrap64 (by omega) (by omega)]; omega
      have hn : ((m : Int) + 1).toNat = m + 1 := by omega
      have hcond := le_false (rises_adj hrise m hl)
      rw [L_law05_JvalPuts_2_0_eq]
      simp only [ha, h5, isSl_sl, toSl_sl, List.length_map, when_true', show decide ((m : Int) + 1 < (q.length : Int)) = true by simp; omega, ifB_true, show decide (0 ≤ (m : Int) + 1) = true by simp; omega, Bool.and_true, hw2, hn, show decide (0 ≤ (m : Int)) = true by simp, show decide ((m : Int) < (q.length : Int)) = true by simp; omega, Int.toNat_natCast, List.getD_eq_getElem?_getD, List.getElem?_map, List.getElem?_eq_getElem hl, List.getElem?_eq_getElem (show m < q.length by omega), Option.map_some, Option.getD_some, fits_str, isStr_str, toStr_str, hcond, ifB_false, hw]
      exact h2
    · rw [L_law05_JvalPuts_2_0_eq]
      simp [-List.map_map, ha, h5, show ¬ ((m : Int) + 1 < (q.length : Int)) by omega, onL_some, hfin]

variable (vk vc vs : Int) (vt : ByteArray) (vi : List FV) (vks : List FV)
theorem puts_loop1 (K : Nat) (hlen : l.length ≤ 1152921504606846976)
    (hfin : Rises l → K_law05_JvalPuts_1 Rt K true (.exit 0) (X_law05_JvalPuts_1_1 key other 6 c s t ((l.map Prod.snd).map JV.enc) ((l.map Prod.fst).map .str) vk vc vs vt vi vks pe) = some ([.fz (.bool true)], [])) :
    ∀ (j m : Nat), l.length ≤ m + 1 + j → (∀ i, i < m → (h : i + 1 < l.length) → Lt l[i].1 l[i + 1].1) → onL (L_law05_JvalPuts_1_0 Rt K true (j + 1) key other ((m : Int) + 1) 6 c s t ((l.map Prod.snd).map JV.enc) ((l.map Prod.fst).map .str) vk vc vs vt vi vks pe) (K_law05_JvalPuts_1 Rt K true) = some ([.fz (.bool true)], []) := by
  intro j
  induction j with
  | zero =>
    intro m hm hbef
    have := hfin (rises_of_adj fun i hi => hbef i (by omega) hi)
    rw [L_law05_JvalPuts_1_0_eq]
    simp [-List.map_map, show ¬ ((m : Int) + 1 < (l.length : Int)) by omega, onL_some, this]
  | succ j jh =>
    intro m hm hbef
    by_cases hl : m + 1 < l.length
    · have hw : IntKind.wrap .i64 ((m : Int) + 1 + 1) = (m : Int) + 1 + 1 := wrap64 (by omega) (by omega)
      have hw2 : IntKind.wrap .i64 ((m : Int) + 1 - 1) = (m : Int) := by rw [wrap64 (by omega) (by omega)]; omega
      have hn : ((m : Int) + 1).toNat = m + 1 := by omega
      rw [L_law05_JvalPuts_1_0_eq]
      by_cases hc : Lt l[m].1 l[m + 1].1
      · have h2 := jh (m + 1) (by omega) (fun i hi h => by
          by_cases e : i = m
          · subst e; exact hc
          · exact hbef i (by omega) h)
        push_cast at h2
        have hcond := le_false hc
        simp only [List.length_map, when_true', show decide ((m : Int) + 1 < (l.length : Int)) = true by simp; omega, ifB_true, show decide (0 ≤ (m : Int) + 1) = true by simp; omega, Bool.and_true, hw2, hn, show decide (0 ≤ (m : Int)) = true by simp, show decide ((m : Int) < (l.length : Int)) = true by simp; omega, Int.toNat_natCast, List.getD_eq_getElem?_getD, List.getElem?_map, List.getElem?_eq_getElem hl, List.getElem?_eq_getElem (show m < l.length by omega), Option.map_some, Option.getD_some, fits_str, isStr_str, toStr_str, hcond, ifB_false, hw]
        exact h2
      · have hcond := le_true hc
        simp only [List.length_map, when_true', show decide ((m : Int) + 1 < (l.length : Int)) = true by simp; omega, ifB_true, show decide (0 ≤ (m : Int) + 1) = true by simp; omega, Bool.and_true, hw2, hn, show decide (0 ≤ (m : Int)) = true by simp, show decide ((m : Int) < (l.length : Int)) = true by simp; omega, Int.toNat_natCast, List.getD_eq_getElem?_getD, List.getElem?_map, List.getElem?_eq_getElem hl, List.getElem?_eq_getElem (show m < l.length by omega), Option.map_some, Option.getD_some, fits_str, isStr_str, toStr_str, hcond, lives5_ok, onR_some]
        simp [onL_some, X_law05_JvalPuts_1_0_eq]
    · have := hfin (rises_of_adj fun i hi => hbef i (by omega) hi)
      rw [L_law05_JvalPuts_1_0_eq]
      simp [-List.map_map, show ¬ ((m : Int) + 1 < (l.length : Int)) by omega, onL_some, this]
end

theorem get_obj2 (c s : Int) (t : ByteArray) (l : Ents) (hlen : l.length ≤ 1152921504606846976) (k : ByteArray) : Rt N_jval_Get [.fz (objV c s t l).enc, .fz (.str k)] = some ([.fz (match look l k with | some w => w.enc | none => JV.zero.enc), .fz (.bool (look l k).isSome)], []) := by
  rw [get_ok (by simpa [objV, JV.ks] using hlen), get_obj]
  cases look l k <;> rfl

theorem objV_sm {c s : Int} {t : ByteArray} {l : Ents} (h : (objV c s t l).Sm) : ∀ x ∈ l, x.2.Sm := by
  cases h with
  | mk hi hk h => intro x hx; exact h _ (List.mem_map_of_mem hx)

theorem look_sm {l : Ents} (h : ∀ x ∈ l, x.2.Sm) {k : ByteArray} {w : JV} (e : look l k = some w) : w.Sm := by
  induction l with
  | nil => cases e
  | cons a r ih =>
    obtain ⟨s, u⟩ := a
    rw [look] at e
    split at e
    · exact ih (fun x hx => h x (List.mem_cons_of_mem _ hx)) e
    · split at e
      · cases e; exact h _ (List.mem_cons_self ..)
      · cases e
theorem zero_sm : JV.zero.Sm := .mk (by simp) (by simp) (fun v h => by cases h)

theorem pure_JvalPuts (f0 f1 f2 : FV) (h0 : WV Try.prog 40 27 f0) (h1 : WV Try.prog 40 27 f1) (h2 : WV Try.prog 40 29 f2) : Rt N_law05_JvalPuts [.fz f0, .fz f1, .fz f2] = some ([.fz (.bool true)], []) := by
  obtain ⟨o, rfl, ho⟩ := jv_of (t := 27) (ts := 9) (by kernel_rfl) (by kernel_rfl) (by kernel_rfl) (by kernel_rfl) (by kernel_rfl) (by kernel_rfl) h0
  obtain ⟨v, rfl, hv⟩ := jv_of (t := 27) (ts := 9) (by kernel_rfl) (by kernel_rfl) (by kernel_rfl) (by kernel_rfl) (by kernel_rfl) (by kernel_rfl) h1
  obtain ⟨key, other, rfl, hkey, hother⟩ := str2_of (by kernel_rfl) (by kernel_rfl) h2
  obtain ⟨b1, hL1⟩ := light_tot ho.sm 300
  obtain ⟨b2, hL2⟩ := light_tot hv.sm 300
  have hroom : Roomy o 1 := by
    cases ho with
    | mk _ _ _ _ hi hk _ _ => exact ⟨by simp only [JV.is, roomy]; omega, by simp only [JV.ks, roomy]; omega⟩
  have hput := put_ok (v := v) hroom key
  have hsm := ho.sm
  have hok : o.ks.length ≤ 1152921504606846976 := by cases hsm with | mk _ hk _ => exact hk
  rcases obj_or o with hno | ⟨c, s, t, l, rfl⟩
  · have hget := get_ok hok key
    have hsame := same_ok hsm o
    rw [sameB_self] at hsame
    rw [(hno key v).2] at hget
    rw [(hno key v).1] at hput
    have hcase : ∀ k c s t is ks, o = JV.mk k c s t is ks → (k != 6) = true ∨ ((k != 6) = false ∧ ((ks.length : Int) != is.length) = true) := by
      intro k c s t is ks e
      subst e
      have hg := (hno key v).2
      have hp := (hno key (JV.mk 5 0 0 ⟨#[]⟩ [] [])).1
      cases b1 : k != 6 with
      | true => exact .inl rfl
      | false =>
        cases b2 : (ks.length : Int) != is.length with
        | true => exact .inr ⟨rfl, rfl⟩
        | false =>
          exfalso
          have e1 : k = 6 := by simpa using b1
          have e2 : ks.length = is.length := by simp at b2; omega
          have : JV.mk k c s t is ks = objV c s t (ks.zip is) := by rw [objV, List.map_fst_zip (by omega), List.map_snd_zip (by omega), e1]
          rw [this, put_obj] at hp
          have hl := congrArg (fun z => z.is.length) (hno key (JV.mk 5 0 0 ⟨#[]⟩ [] [])).1
          have hg2 := (hno key v).2
          rw [this, put_obj] at hl
          have hz := (hno key v).1
          have hq := congrArg (fun z : JV => z.get key) hz
          rw [this, put_obj, get_obj, look_ins_same, ← this, (hno key v).2] at hq
          simp at hq
    obtain ⟨k, c, s, t, is, ks⟩ := o
    obtain ⟨k', c', s', t', is', ks'⟩ := v
    rw [JV.enc_mk] at hL1 hL2 hsame
    rw [JV.enc_mk, JV.enc_mk] at hput
    rw [JV.enc_mk] at hget
    refine rt_call A_law05_JvalPuts rfl rfl 0 ?_
    rw [JV.enc_mk, JV.enc_mk, E_law05_JvalPuts]
    cases b1 with
    | false => simp [hL1, onR_some, lives5_ok]
    | true =>
      cases b2 with
      | false => simp [hL1, hL2, onR_some, lives5_ok]
      | true =>
        rcases hcase _ _ _ _ _ _ rfl with hc | ⟨hc, hc2⟩
        · simp [hL1, hL2, onR_some, J_law05_JvalPuts_9_0_eq, hput, hc, J_law05_JvalPuts_1_0_eq, hget, hsame, lives5_ok]
        · simp [hL1, hL2, onR_some, J_law05_JvalPuts_9_0_eq, hput, hc, hc2, J_law05_JvalPuts_1_0_eq, hget, hsame, lives5_ok]
  · have hrng : l.length ≤ 1152921504606846975 := by have := hroom.ks; simp only [objV, JV.ks, List.length_map, roomy] at this; omega
    rw [put_obj] at hput
    have hall := objV_sm hsm
    have hqall : ∀ x ∈ ins l key v, x.2.Sm := fun x hx => by
      rcases ins_mem hx with rfl | hx
      · exact hv.sm
      · exact hall x hx
    have hql := ins_length l key v
    have hqle : (ins l key v).length ≤ 1152921504606846976 := by
      rw [hql]; cases look l key <;> simp only [] <;> omega
    have hgo := get_obj2 c s t l (by omega)
    have hgp := get_obj2 0 0 ⟨#[]⟩ (ins l key v) hqle
    have hpe := objV_enc 0 0 ⟨#[]⟩ (ins l key v)
    have ha : FV.isAg 6 (objV 0 0 ⟨#[]⟩ (ins l key v)).enc = true := by rw [hpe]; rfl
    have h5 : FV.cell (objV 0 0 ⟨#[]⟩ (ins l key v)).enc 5 = .sl (((ins l key v).map Prod.fst).map .str) := by rw [hpe]; rfl
    have h4 : FV.cell (objV 0 0 ⟨#[]⟩ (ins l key v)).enc 4 = .sl (((ins l key v).map Prod.snd).map JV.enc) := by rw [hpe]; rfl
    have h0 : FV.cell (objV 0 0 ⟨#[]⟩ (ins l key v)).enc 0 = .int .i64 6 := by rw [hpe]; rfl
    have hfit : FV.fits 6 true (objV 0 0 ⟨#[]⟩ (ins l key v)).enc = true := JV.enc_fits _
    have hsv := same_ok hv.sm v
    rw [sameB_self] at hsv
    generalize (objV 0 0 ⟨#[]⟩ (ins l key v)).enc = pe at hput hgp ha h5 h4 h0 hfit
    clear hpe
    obtain ⟨k', c', s', t', is', ks'⟩ := v
    -- behind the first loop
    have part : ∀ K : Nat, l.length + 3 ≤ K → J_law05_JvalPuts_7_0 Rt K true key other 6 c s t ((l.map Prod.snd).map JV.enc) ((l.map Prod.fst).map .str) k' c' s' t' (is'.map JV.enc) (ks'.map .str) pe = some ([.fz (.bool true)], []) := by
      intro K hK
      obtain ⟨K, rfl⟩ : ∃ m, K = m + 1 := ⟨K - 1, by omega⟩
      rw [J_law05_JvalPuts_7_0_eq]
      refine puts_loop1 c s t l key other pe k' c' s' t' (is'.map JV.enc) (ks'.map .str) (K + 1) (by omega) (fun hrise => ?_) K 0 (by omega) (fun i hi => by omega)
      have hqr := rises_ins key (.mk k' c' s' t' is' ks') hrise
      -- the three loops behind it
      have fin : ∀ x21 : Int, x21 = ((ins l key (.mk k' c' s' t' is' ks')).length : Int) → K_law05_JvalPuts_3 Rt (K + 1) true (.exit 4) (X_law05_JvalPuts_3_1 x21 pe) = some ([.fz (.bool true)], []) := fun x21 hx => by
        rw [X_law05_JvalPuts_3_1_eq]
        simp [-List.map_map, ha, h5, h0, hx, lives5_ok, onR_some]
      have j4 : ∀ x21 : Int, x21 = ((ins l key (.mk k' c' s' t' is' ks')).length : Int) → J_law05_JvalPuts_4_0 Rt (K + 1) true key x21 6 c s t ((l.map Prod.snd).map JV.enc) ((l.map Prod.fst).map .str) pe = some ([.fz (.bool true)], []) := fun x21 hx => by
        rw [J_law05_JvalPuts_4_0_eq]
        refine puts_loop2 c s t l key pe (K + 1) x21 _ hqle hqr ha h5 ?_ K 0 (by rw [hql]; cases look l key <;> simp only [] <;> omega)
        rw [X_law05_JvalPuts_2_1_eq]
        have := puts_loop3 c s t l key (.mk k' c' s' t' is' ks') pe (K + 1) x21 (by omega) hrise hall hgp (fin x21 hx) K 0 (by omega)
        rw [show ((0 : Nat) : Int) = 0 from rfl] at this
        exact this
      have hgs := hgp key
      rw [look_ins_same] at hgs
      simp only [Option.isSome] at hgs
      rw [JV.enc_mk] at hgs
      have hgo1 := hgo key
      have hgo2 := hgo other
      have hgp2 := hgp other
      rw [objV_enc] at hgo1 hgo2
      have j5 : J_law05_JvalPuts_5_0 Rt (K + 1) true key 6 c s t ((l.map Prod.snd).map JV.enc) ((l.map Prod.fst).map .str) pe = some ([.fz (.bool true)], []) := by
        rw [J_law05_JvalPuts_5_0_eq, hgo1, onR_some]
        have hw1 : IntKind.wrap .i64 ((l.length : Int) + 1) = (l.length : Int) + 1 := wrap64 (by omega) (by omega)
        have hw2 : IntKind.wrap .i64 ((l.length : Int) + 1 - 1) = (l.length : Int) := by rw [wrap64 (by omega) (by omega)]; omega
        cases hlk : look l key with
        | none =>
          rw [hlk] at hql
          have := j4 ((l.length : Int) + 1) (by rw [hql]; simp)
          simp only [Option.isSome, List.isEmpty_nil, allF_cons, allF_nil, Bool.and_true, when_true', List.getD_cons_zero, List.getD_cons_succ, toF_fz, isBool_bool, toBool_bool, JV.enc_fits, ifB_false, jump_true, List.length_map, hw1]
          exact this
        | some w =>
          rw [hlk] at hql
          have := j4 (l.length : Int) (by rw [hql]; simp)
          simp only [Option.isSome, List.isEmpty_nil, allF_cons, allF_nil, Bool.and_true, when_true', List.getD_cons_zero, List.getD_cons_succ, toF_fz, isBool_bool, toBool_bool, JV.enc_fits, ifB_true, jump_true, List.length_map, hw1, hw2]
          exact this
      have hleq : (((ins l key (.mk k' c' s' t' is' ks')).length : Int) != ((ins l key (.mk k' c' s' t' is' ks')).length : Int)) = false := by simp
      rw [X_law05_JvalPuts_1_1_eq, hgs, onR_some, hgo2, hgp2]
      have hsv2 := hsv
      rw [JV.enc_mk] at hsv2
      have hfv : FV.fits 6 true (.ag [.int .i64 k', .int .i64 c', .int .i64 s', .str t', .sl (is'.map JV.enc), .sl (ks'.map .str)]) = true := rfl
      have hll : (((ins l key (.mk k' c' s' t' is' ks')).length : Int) != ((ins l key (.mk k' c' s' t' is' ks')).length : Int)) = false := by simp
      by_cases hko : other = key
      · have hbe := bytes_beq other key
        rw [decide_eq_true hko] at hbe
        have hlo : look (ins l key (.mk k' c' s' t' is' ks')) other = some (.mk k' c' s' t' is' ks') := by rw [hko]; exact look_ins_same _ _ _
        rw [hlo]
        cases look l other <;> simp only [onR_some, Option.isSome, List.isEmpty_nil, allF_cons, allF_nil, Bool.and_true, when_true', List.getD_cons_zero, List.getD_cons_succ, toF_fz, isBool_bool, toBool_bool, JV.enc_fits, Bool.not_true, Bool.not_false, ifB_false, ifB_true, jump_true, List.length_map, isSl_sl, toSl_sl, hfv, hsv2, hbe, ha, h5, h4, j5, hll]
      · have hbe := bytes_beq other key
        rw [decide_eq_false hko] at hbe
        have hlo : look (ins l key (.mk k' c' s' t' is' ks')) other = look l other := look_ins_other hko _ _
        rw [hlo]
        cases hl2 : look l other with
        | none =>
          have hz := same_ok zero_sm JV.zero
          rw [sameB_self] at hz
          simp only [onR_some, Option.isSome, List.isEmpty_nil, allF_cons, allF_nil, Bool.and_true, when_true', List.getD_cons_zero, List.getD_cons_succ, toF_fz, isBool_bool, toBool_bool, JV.enc_fits, Bool.not_true, Bool.not_false, ifB_false, ifB_true, jump_true, List.length_map, isSl_sl, toSl_sl, hfv, hsv2, hbe, ha, h5, h4, j5, hll, hz, beq_self_eq_true]
        | some u =>
          have hz := same_ok (look_sm hall hl2) u
          rw [sameB_self] at hz
          simp only [onR_some, Option.isSome, List.isEmpty_nil, allF_cons, allF_nil, Bool.and_true, when_true', List.getD_cons_zero, List.getD_cons_succ, toF_fz, isBool_bool, toBool_bool, JV.enc_fits, Bool.not_true, Bool.not_false, ifB_false, ifB_true, jump_true, List.length_map, isSl_sl, toSl_sl, hfv, hsv2, hbe, ha, h5, h4, j5, hll, hz, beq_self_eq_true]
    rw [objV_enc] at hL1 hput
    rw [JV.enc_mk] at hL2 hput
    refine rt_call A_law05_JvalPuts rfl rfl (l.length + 3) ?_
    rw [objV_enc, JV.enc_mk, E_law05_JvalPuts]
    cases b1 with
    | false => simp only [hL1, onR_some, List.isEmpty_nil, allF_cons, allF_nil, Bool.and_true, when_true', List.getD_cons_zero, toF_fz, isBool_bool, toBool_bool, Bool.not_false, ifB_true, lives5_ok]
    | true =>
      cases b2 with
      | false => simp only [hL1, hL2, onR_some, List.isEmpty_nil, allF_cons, allF_nil, Bool.and_true, when_true', List.getD_cons_zero, toF_fz, isBool_bool, toBool_bool, Bool.not_false, Bool.not_true, ifB_true, ifB_false, lives5_ok]
      | true =>
        simp only [hL1, hL2, onR_some, List.isEmpty_nil, allF_cons, allF_nil, Bool.and_true, when_true', List.getD_cons_zero, toF_fz, isBool_bool, toBool_bool, Bool.not_true, ifB_false, jump_true, J_law05_JvalPuts_9_0_eq, hput, hfit, show ((6 : Int) != 6) = false from rfl, List.length_map, show ((l.length : Int) != (l.length : Int)) = false by simp, J_law05_JvalPuts_1_0_eq]
        exact part _ (Nat.le_refl _)
end Go.Ab
