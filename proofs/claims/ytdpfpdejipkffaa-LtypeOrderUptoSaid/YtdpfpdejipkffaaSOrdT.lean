/- What is cut is above what it was; a node that fits a type fits each one above it; the least type that a node fits. -/
import Derived.Test.YtdpfpdejipkffaaSFitP
import Derived.Test.YtdpfpdejipkffaaSMayL
namespace Go.Ab
open Go.Proofs
set_option linter.unusedVariables false
set_option linter.unusedSimpArgs false
set_option linter.unusedSectionVars false
theorem allT_bel {L : Lt} (O : L.Ok) {x : TY} (hm : MayT L x) : allT L x = L.join x.a.toNat (belT L x) ∧ x.a.toNat < L.n := by
  cases hm with
  | @mk a r ks us ha hr hl hp h =>
  obtain ⟨a0, a1⟩ := Lt.is_iff.1 ha
  obtain ⟨r0, r1⟩ := Lt.is_iff.1 hr
  obtain ⟨p, rfl⟩ : ∃ p : Nat, a = p := ⟨a.toNat, by omega⟩
  obtain ⟨q, rfl⟩ : ∃ q : Nat, r = q := ⟨r.toNat, by omega⟩
  have hp' : p < L.n := by omega
  have hq : q < L.n := by omega
  refine ⟨?_, by show (p : Int).toNat < L.n; omega⟩
  unfold belT
  simp only [TY.r, TY.us, TY.a, Int.toNat_natCast]
  rw [allT_mk, Lt.joinI_nat hp' hq, Lt.joinI_nat hq hq, join_self O hq, allTs_join O hp' us q hq]
theorem bel_ge {L : Lt} (O : L.Ok) {x : TY} (hm : MayT L x) : L.leqI x.r (belT L x : Nat) = true ∧ ∀ u ∈ x.us, L.leq (allT L u) (belT L x) = true := by
  cases hm with
  | @mk a r ks us ha hr hl hp h =>
  obtain ⟨r0, r1⟩ := Lt.is_iff.1 hr
  obtain ⟨q, rfl⟩ : ∃ q : Nat, r = q := ⟨r.toNat, by omega⟩
  have hq : q < L.n := by omega
  unfold belT
  simp only [TY.r, TY.us]
  rw [Lt.joinI_nat hq hq, join_self O hq]
  have hc := allTs_lt O us q hq
  have := leq_allTs O hc us q hq
  rw [O.refl _ hc] at this
  have := (Bool.and_eq_true _ _).mp this.symm
  exact ⟨by rw [Lt.leqI_nat hq hc]; exact this.1, fun u hu => List.all_eq_true.1 this.2 u hu⟩
theorem bel_of {L : Lt} (O : L.Ok) {x : TY} (hm : MayT L x) (k : ByteArray) : L.leq (allT L (ofT x k)) (belT L x) = true := by
  obtain ⟨b1, b2⟩ := bel_ge O hm
  obtain ⟨a, ks, us, r⟩ := x
  rcases ofL_cases ks us k r with h1 | h1
  · exact b2 _ h1
  · show L.leq (allT L (ofL ks us k r)) _ = true
    rw [h1, allT_mk]
    simp only [TY.r] at b1
    have hr := (leqI_is b1).1
    obtain ⟨r0, r1⟩ := Lt.is_iff.1 hr
    obtain ⟨q, rfl⟩ : ∃ q : Nat, r = q := ⟨r.toNat, by omega⟩
    have hq : q < L.n := by omega
    rw [Lt.joinI_nat hq hq, join_self O hq]
    simp only [allTs]
    rw [Lt.leqI_nat hq (belT_lt O _)] at b1
    exact b1
theorem all_plain {L : Lt} (O : L.Ok) {q : Nat} (hq : q < L.n) : allT L (.mk q [] [] q) = q ∧ belT L (.mk q [] [] q) = q := by
  rw [allT_mk]; unfold belT
  simp only [TY.r, TY.us]
  rw [Lt.joinI_nat hq hq, join_self O hq]
  exact ⟨by simp [allTs], by simp [allTs]⟩
theorem isBel {L : Lt} (O : L.Ok) (x : TY) : L.is (belT L x : Nat) = true := by rw [Lt.is_nat]; exact decide_eq_true (belT_lt O x)
theorem cut_may {L : Lt} (O : L.Ok) : ∀ (d : Nat) {x : TY}, MayT L x → MayT L (cutT L d x)
  | 0, x, h => by rw [cut0]; exact .mk h.ha (isBel O x) rfl List.Pairwise.nil (fun u hu => by cases hu)
  | d + 1, .mk a ks us r, h => by
    cases h with
    | mk ha hr hl hp h =>
    rw [cutS]
    exact .mk ha hr (by rw [List.length_map]; exact hl) hp (fun u hu => by
      obtain ⟨w, hw, rfl⟩ := List.mem_map.1 hu
      exact cut_may O d (h w hw))
theorem cut_dp (L : Lt) : ∀ (d n : Nat) {x : TY}, x.Dp n → (cutT L d x).Dp n
  | 0, n, x, _ => by
    rw [cut0]
    cases n with
    | zero => rfl
    | succ n => intro u hu; cases hu
  | d + 1, 0, .mk a ks us r, h => by
    have h : us = [] := h
    subst h
    rfl
  | d + 1, n + 1, .mk a ks us r, h => by
    rw [cutS]
    intro u hu
    obtain ⟨w, hw, rfl⟩ := List.mem_map.1 hu
    exact cut_dp L d n (h w hw)
theorem cut_bd (L : Lt) {m : Nat} : ∀ (d : Nat) {x : TY}, x.Bd m → (cutT L d x).Bd m
  | 0, x, _ => by rw [cut0]; exact .mk (by simp) (by simp) (fun u hu => by cases hu)
  | d + 1, .mk a ks us r, h => by
    cases h with
    | mk hk hu h =>
    rw [cutS]
    exact .mk hk (by rw [List.length_map]; exact hu) (fun u hu => by
      obtain ⟨w, hw, rfl⟩ := List.mem_map.1 hu
      exact cut_bd L d (h w hw))
theorem cut_plain {L : Lt} (O : L.Ok) {q : Nat} (hq : q < L.n) : ∀ d, cutT L d (.mk q [] [] q) = .mk q [] [] q
  | 0 => by rw [cut0, (all_plain O hq).2]; rfl
  | d + 1 => by rw [cutS]; rfl
theorem ofL_us : ∀ (ks : List ByteArray) (us : List TY) (g : TY → TY) (k : ByteArray) (r : Int), g (.mk r [] [] r) = .mk r [] [] r → ofL ks (us.map g) k r = g (ofL ks us k r)
  | [], us, g, k, r, h => by simp [ofL, h]
  | k' :: ks, [], g, k, r, h => by simp [ofL, h]
  | k' :: ks, u :: us, g, k, r, h => by
    rw [List.map_cons, ofL, ofL]
    split
    · rfl
    · exact ofL_us ks us g k r h
theorem ofT_cut {L : Lt} (O : L.Ok) (d : Nat) {x : TY} (hm : MayT L x) (k : ByteArray) : ofT (cutT L (d + 1) x) k = cutT L d (ofT x k) := by
  have hr := hm.hr
  obtain ⟨a, ks, us, r⟩ := x
  obtain ⟨r0, r1⟩ := Lt.is_iff.1 hr
  simp only [TY.r] at r0 r1
  obtain ⟨q, rfl⟩ : ∃ q : Nat, r = q := ⟨r.toNat, by omega⟩
  rw [cutS]
  exact ofL_us ks us (cutT L d) k q (cut_plain O (by omega) d)
theorem leq_cut {L : Lt} (O : L.Ok) : ∀ (d n : Nat) {x : TY}, MayT L x → x.Dp n → leqA L n x (cutT L d x)
  | 0, n, x, hm, hd => by
    obtain ⟨b1, b2⟩ := bel_ge O hm
    have ha := leqI_refl O hm.ha
    have h0 : (cutT L 0 x).a = x.a ∧ (cutT L 0 x).r = (belT L x : Nat) := by rw [cut0]; exact ⟨rfl, rfl⟩
    cases n with
    | zero => exact ⟨by rw [h0.1]; exact ha, by rw [h0.2]; exact b1⟩
    | succ n =>
      refine ⟨by rw [h0.1]; exact ha, by rw [h0.2]; exact b1, fun k => ?_⟩
      have e : ofT (cutT L 0 x) k = .mk (belT L x : Nat) [] [] (belT L x : Nat) := by rw [cut0]; simp [ofT, ofL, TY.ks, TY.us, TY.r]
      rw [e]
      have h := leqT_plain O (belT_lt O x) n (ofT_may hm k) (ofT_dp hd k)
      rw [bel_of O hm k] at h
      exact (leqT_iff n _ _).1 h
  | d + 1, n, x, hm, hd => by
    have ha := leqI_refl O hm.ha
    have hr := leqI_refl O hm.hr
    have h0 : (cutT L (d + 1) x).a = x.a ∧ (cutT L (d + 1) x).r = x.r := by obtain ⟨a, ks, us, r⟩ := x; exact ⟨rfl, rfl⟩
    cases n with
    | zero => exact ⟨by rw [h0.1]; exact ha, by rw [h0.2]; exact hr⟩
    | succ n =>
      refine ⟨by rw [h0.1]; exact ha, by rw [h0.2]; exact hr, fun k => ?_⟩
      rw [ofT_cut O d hm k]
      exact leq_cut O d n (ofT_may hm k) (ofT_dp hd k)
/-- A node that fits a type fits each one above it. -/
theorem fits_mono {L : Lt} (O : L.Ok) {v : ND} (hv : v.Sm) : ∀ (n : Nat) {x y : TY}, x.Dp n → y.Dp n → leqA L n x y → fitsN L v x = true → fitsN L v y = true := by
  induction hv with
  | @mk a d k c s t is ks hi hk ht hs h ih =>
    intro n x y dx dy hxy hf
    have h1 : L.leqI x.a y.a = true ∧ L.leqI x.r y.r = true := by
      cases n with
      | zero => exact hxy
      | succ n => exact ⟨hxy.1, hxy.2.1⟩
    have hk' : ∃ m : Nat, ∀ key, (ofT x key).Dp m ∧ (ofT y key).Dp m ∧ leqA L m (ofT x key) (ofT y key) := by
      cases n with
      | succ n => exact ⟨n, fun key => ⟨ofT_dp dx key, ofT_dp dy key, hxy.2.2 key⟩⟩
      | zero =>
        refine ⟨0, fun key => ?_⟩
        have e : ∀ w : TY, w.us = [] → ofT w key = .mk w.r [] [] w.r := fun w hw => by
          unfold ofT; rw [hw]; cases w.ks <;> simp [ofL]
        rw [e x dx, e y dy]
        exact ⟨rfl, rfl, h1.2, h1.2⟩
    obtain ⟨m, hkk⟩ := hk'
    rw [fitsN_mk, Bool.and_eq_true] at hf ⊢
    refine ⟨leqI_trans O hf.1 h1.1, ?_⟩
    have fold : ∀ (l : List ND) (ks : List ByteArray), (∀ u ∈ l, u ∈ is) → fitsNs L l k ks x = true → fitsNs L l k ks y = true := by
      intro l
      induction l with
      | nil => intro ks _ _; simp [fitsNs]
      | cons u l lh =>
        intro ks hmm hf
        have hu := hmm u (List.mem_cons_self ..)
        rw [fitsNs_cons, Bool.and_eq_true] at hf ⊢
        refine ⟨?_, lh ks.tail (fun z hz => hmm z (List.mem_cons_of_mem _ hz)) hf.2⟩
        have h2 := hf.1
        cases ks with
        | nil => exact leqI_trans O h2 h1.2
        | cons key ks =>
          dsimp only at h2 ⊢
          split at h2
          · rename_i h6
            rw [if_pos h6]
            exact ih u hu m (hkk key).1 (hkk key).2.1 (hkk key).2.2 h2
          · rename_i h6
            rw [if_neg h6]
            exact leqI_trans O h2 h1.2
    exact fold is ks (fun u hu => hu) hf.2
theorem fits_all {L : Lt} (O : L.Ok) {v : ND} (hv : v.Sm) (hm : mayB L v = true) (n : Nat) {x : TY} (hx : MayT L x) (dx : x.Dp n) (hf : fitsN L v x = true) : L.leq (deepN L v) (allT L x) = true := by
  have hc := allT_lt O x
  have h := leqT_plain O hc n hx dx
  rw [O.refl _ hc] at h
  exact plain_fits O hc hv hm (fits_mono O hv n dx (dp_plain n _) ((leqT_iff n _ _).1 h) hf)
theorem fits_bel {L : Lt} (O : L.Ok) {a d k c s : Int} {t : ByteArray} {is : List ND} {ks : List ByteArray} (hv : (ND.mk a d k c s t is ks).Sm) (hm : mayB L (.mk a d k c s t is ks) = true) (n : Nat) {x : TY} (hx : MayT L x) (dx : x.Dp n) (hf : fitsN L (.mk a d k c s t is ks) x = true) : L.leqI a x.a = true ∧ L.leq (deepNs L L.bot is) (belT L x) = true := by
  cases hv with
  | mk hi hk ht hs h =>
  have hlab : labBs L is = true := by
    have := hm
    simp only [mayB, Bool.and_eq_true, labB_mk] at this
    exact this.1.2
  rw [fitsN_mk, Bool.and_eq_true] at hf
  refine ⟨hf.1, ?_⟩
  have hc := belT_lt O x
  have hk' : ∀ key, (ofT x key).Dp n := fun key => by
    cases n with
    | succ n =>
      have := ofT_dp dx key
      have up : ∀ (m : Nat) {w : TY}, w.Dp m → w.Dp (m + 1) := by
        intro m
        induction m with
        | zero => intro w hw u hu; rw [show w.us = [] from hw] at hu; cases hu
        | succ m ih => intro w hw u hu; exact ih (hw u hu)
      exact up n this
    | zero =>
      have e : ofT x key = .mk x.r [] [] x.r := by unfold ofT; rw [show x.us = [] from dx]; cases x.ks <;> simp [ofL]
      rw [e]; rfl
  have fold : ∀ (l : List ND) (ks : List ByteArray), (∀ u ∈ l, u ∈ is) → fitsNs L l k ks x = true → ∀ u ∈ l, L.leq (deepN L u) (belT L x) = true := by
    intro l
    induction l with
    | nil => intro ks _ _ u hu; cases hu
    | cons w l lh =>
      intro ks hmm hf u hu
      have hw := hmm w (List.mem_cons_self ..)
      obtain ⟨e1, e2⟩ := may_d O (may_item hm hw)
      rw [fitsNs_cons, Bool.and_eq_true] at hf
      rcases List.mem_cons.1 hu with rfl | hu
      · have hq : L.leqI u.d x.r = true → L.leq (deepN L u) (belT L x) = true := fun hh => by
          have := leqI_trans O hh (bel_ge O hx).1
          rw [e1, Lt.leqI_nat e2 hc] at this
          exact this
        have h2 := hf.1
        cases ks with
        | nil => exact hq h2
        | cons key ks =>
          dsimp only at h2
          split at h2
          · have g := fits_all O (h u hw) (may_item hm hw) n (ofT_may hx key) (hk' key) h2
            exact O.trans _ _ _ e2 (allT_lt O _) hc g (bel_of O hx key)
          · exact hq h2
      · exact lh ks.tail (fun z hz => hmm z (List.mem_cons_of_mem _ hz)) hf.2 u hu
  exact leq_deepNs O hc is L.bot O.bot hlab (O.botle _ hc) (fold is ks (fun u hu => hu) hf.2)
theorem allTs_map {L : Lt} (g : TY → TY) : ∀ (us : List TY) (acc : Nat), (∀ u ∈ us, allT L (g u) = allT L u) → allTs L acc (us.map g) = allTs L acc us
  | [], acc, _ => rfl
  | u :: us, acc, h => by
    rw [List.map_cons, allTs, allTs, h u (List.mem_cons_self ..)]
    exact allTs_map g us _ fun v hv => h v (List.mem_cons_of_mem _ hv)
theorem bel_cut {L : Lt} (O : L.Ok) : ∀ (d : Nat) {x : TY}, MayT L x → belT L (cutT L d x) = belT L x ∧ allT L (cutT L d x) = allT L x
  | 0, x, hm => by
    have e : belT L (cutT L 0 x) = belT L x := by
      rw [cut0]
      show allTs L (L.joinI (belT L x : Nat) (belT L x : Nat)) [] = belT L x
      rw [Lt.joinI_nat (belT_lt O x) (belT_lt O x), join_self O (belT_lt O x)]
      simp [allTs]
    refine ⟨e, ?_⟩
    rw [(allT_bel O (cut_may O 0 hm)).1, e, (allT_bel O hm).1, cut0]; rfl
  | d + 1, .mk a ks us r, hm => by
    have hm' := hm
    cases hm with
    | mk ha hr hl hp h =>
    have e : belT L (cutT L (d + 1) (.mk a ks us r)) = belT L (.mk a ks us r) := by
      rw [cutS]
      exact allTs_map (cutT L d) us _ fun u hu => (bel_cut O d (h u hu)).2
    refine ⟨e, ?_⟩
    rw [(allT_bel O (cut_may O (d + 1) hm')).1, e, (allT_bel O hm').1]; rfl
/-- The least type that a node fits, cut, is below each that it fits, cut. -/
theorem least_cut {L : Lt} (O : L.Ok) {v : ND} (hv : v.Sm) (hm : mayB L v = true) (n : Nat) {x : TY} (hx : MayT L x) (dx : x.Dp n) (hf : fitsN L v x = true) : leqT L 3 (cutT L 0 (leastN L 3 v)) (cutT L 0 x) = true := by
  have hlab : labB L v = true := by simp only [mayB, Bool.and_eq_true] at hm; exact hm.1
  have hw := whole_may O hv hm
  have e3 := cut_whole O hv hlab 3
  have e0 := cut_whole O hv hlab 0
  have hb := (bel_cut O 3 hw).1
  rw [e3] at hb
  obtain ⟨a, d, k, c, s, t, is, ks⟩ := v
  obtain ⟨f1, f2⟩ := fits_bel O hv hm n hx dx hf
  have f0 : belT L (wholeN L (.mk a d k c s t is ks)) = deepNs L L.bot is := by
    have : (cutT L 0 (wholeN L (.mk a d k c s t is ks))).r = (TY.mk a [] [] (deepNs L L.bot is)).r := by rw [e0]; rfl
    rw [cut0] at this
    simp only [TY.r] at this
    omega
  have ea : (leastN L 3 (.mk a d k c s t is ks)).a = a := by
    by_cases h6 : k = 6 <;> simp [leastN, h6, TY.a]
  rw [f0] at hb
  have e1 : cutT L 0 (leastN L 3 (.mk a d k c s t is ks)) = .mk a [] [] (deepNs L L.bot is : Nat) := by rw [cut0, ea, hb]
  have e2 : cutT L 0 x = .mk x.a [] [] (belT L x : Nat) := cut0 L x
  rw [e1, e2]
  have hlabs : labBs L is = true := by rw [labB_mk, Bool.and_eq_true] at hlab; exact hlab.2
  have hd := deepNs_lt O is _ O.bot hlabs
  generalize x.a = xa at f1 ⊢
  simp only [leqT, TY.a, TY.r, TY.ks, mrg_nil, List.all_nil, Bool.and_true, f1, Lt.leqI_nat hd (belT_lt O x), f2]
end Go.Ab
