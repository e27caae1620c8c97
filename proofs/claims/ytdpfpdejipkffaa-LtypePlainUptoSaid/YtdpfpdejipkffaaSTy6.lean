/- The least type that a node fits, plainly. -/
import Derived.Test.YtdpfpdejipkffaaSTy5
namespace Go.Ab
set_option linter.unusedVariables false
set_option linter.unusedSimpArgs false
set_option linter.unusedSectionVars false
theorem whole_ti (L : Lt) {v : ND} (hv : v.Sm) : (wholeN L v).Ti := by
  induction hv with
  | @mk a d k c s t is ks hi hk ht hs h ih =>
    rw [wholeN_mk]
    split
    · exact .mk hk (by simpa using hi) (fun u hu => by obtain ⟨x, hx, rfl⟩ := List.mem_map.1 hu; exact ih x hx)
    · exact .mk (by simp) (by simp) (fun u hu => by cases hu)
theorem least_ti (L : Lt) {v : ND} (hv : v.Sm) : ∀ m, (leastN L m v).Ti := by
  induction hv with
  | @mk a d k c s t is ks hi hk ht hs h ih =>
    intro m
    cases m with
    | zero => rw [leastN]; exact .mk (by simp) (by simp) (fun u hu => by cases hu)
    | succ m =>
      rw [leastN]
      split
      · exact .mk hk (by simpa using hi) (fun u hu => by obtain ⟨x, hx, rfl⟩ := List.mem_map.1 hu; exact ih x hx m)
      · exact .mk (by simp) (by simp) (fun u hu => by cases hu)
theorem keysOk_cons (p : Option ByteArray) (s : ByteArray) (r : List ByteArray) : keysOk p (s :: r) = (textB s && ((match p with | none => true | some q => !(leB s q)) && keysOk (some s) r)) := by
  cases p <;> simp [keysOk]
theorem keysOk_rise : ∀ (ks : List ByteArray) (p : Option ByteArray), keysOk p ks = true → (∀ q, p = some q → ∀ k ∈ ks, BLt q k) ∧ ks.Pairwise BLt
  | [], p, _ => ⟨fun q _ k hk => (by cases hk), List.Pairwise.nil⟩
  | k :: ks, p, h => by
    rw [keysOk_cons, Bool.and_eq_true, Bool.and_eq_true] at h
    obtain ⟨_, h2, h3⟩ := h
    obtain ⟨q1, q2⟩ := keysOk_rise ks (some k) h3
    refine ⟨fun q hq x hx => ?_, List.pairwise_cons.2 ⟨q1 k rfl, q2⟩⟩
    subst hq
    have hb : BLt q k := leO_false.1 (by simpa [leB] using h2)
    rcases List.mem_cons.1 hx with rfl | hx
    · exact hb
    · exact hb.trans (q1 k rfl x hx)
theorem may_rise {L : Lt} {a d k c s : Int} {t : ByteArray} {is : List ND} {ks : List ByteArray} (h : mayB L (.mk a d k c s t is ks) = true) : ks.Pairwise BLt := by
  simp only [mayB, Bool.and_eq_true, strip_mk, shapeB_mk] at h
  have h5 := h.2.2.2.1
  simp only [isR, Bool.and_eq_true] at h5
  exact (keysOk_rise ks none h5.2.2.2.2.2.2.2.1).2
theorem deep_bot {L : Lt} (O : L.Ok) {is : List ND} (hl : labBs L is = true) {x : Nat} (hx : x < L.n) : L.join x (deepNs L L.bot is) = deepNs L x is := by
  have h1 := deepNs_join O hx is L.bot O.bot hl
  have hb : L.join L.bot x = x := O.join_eq O.bot hx hx (O.botle _ hx) (O.refl _ hx) fun d hd _ y => y
  rw [hb] at h1
  rw [O.join_comm hx (deepNs_lt O is _ O.bot hl), h1]
theorem join_self {L : Lt} (O : L.Ok) {x : Nat} (hx : x < L.n) : L.join x x = x := O.join_eq hx hx hx (O.refl _ hx) (O.refl _ hx) fun d hd y _ => y
theorem join_botR {L : Lt} (O : L.Ok) {x : Nat} (hx : x < L.n) : L.join x L.bot = x := O.join_eq hx O.bot hx (O.refl _ hx) (O.botle _ hx) fun d hd y _ => y
/-- All labels of the whole type are the node's. -/
theorem all_whole {L : Lt} (O : L.Ok) {v : ND} (hv : v.Sm) : labB L v = true → allT L (wholeN L v) = deepN L v := by
  induction hv with
  | @mk a d k c s t is ks hi hk ht hs h ih =>
    intro hlab
    rw [labB_mk, Bool.and_eq_true] at hlab
    obtain ⟨a0, a1⟩ := Lt.is_iff.1 hlab.1
    obtain ⟨p, rfl⟩ : ∃ p : Nat, a = p := ⟨a.toNat, by omega⟩
    have hp : p < L.n := by omega
    have fold : ∀ (l : List ND) (acc : Nat), (∀ x ∈ l, x ∈ is) → allTs L acc (l.map (wholeN L)) = deepNs L acc l := by
      intro l
      induction l with
      | nil => intro acc _; simp [allTs, deepNs]
      | cons x l lh =>
        intro acc hm
        have hx := hm x (List.mem_cons_self ..)
        rw [List.map_cons, allTs, deepNs, ih x hx (labBs_iff.1 hlab.2 x hx)]
        exact lh _ fun y hy => hm y (List.mem_cons_of_mem _ hy)
    rw [wholeN_mk, deepN_mk, Int.toNat_natCast]
    split
    · rw [allT_mk, Lt.joinI_nat hp O.bot, join_botR O hp]
      exact fold is p fun x hx => hx
    · rw [allT_mk, Lt.joinI_nat hp (deepNs_lt O is _ O.bot hlab.2), allTs]
      exact deep_bot O hlab.2 hp
theorem cut_whole {L : Lt} (O : L.Ok) {v : ND} (hv : v.Sm) : labB L v = true → ∀ m, cutT L m (wholeN L v) = leastN L m v := by
  induction hv with
  | @mk a d k c s t is ks hi hk ht hs h ih =>
    intro hlab m
    have hlab' := hlab
    rw [labB_mk, Bool.and_eq_true] at hlab
    have hd := deepNs_lt O is _ O.bot hlab.2
    rw [wholeN_mk]
    cases m with
    | zero =>
      rw [leastN]
      split
      · rw [cutT, Lt.joinI_nat O.bot O.bot, join_self O O.bot]
        congr 2
        have fold : ∀ (l : List ND) (acc : Nat), (∀ x ∈ l, x ∈ is) → allTs L acc (l.map (wholeN L)) = deepNs L acc l := by
          intro l
          induction l with
          | nil => intro acc _; simp [allTs, deepNs]
          | cons x l lh =>
            intro acc hm
            have hx := hm x (List.mem_cons_self ..)
            rw [List.map_cons, allTs, deepNs, all_whole O (h x hx) (labBs_iff.1 hlab.2 x hx)]
            exact lh _ fun y hy => hm y (List.mem_cons_of_mem _ hy)
        exact fold is L.bot fun x hx => hx
      · rw [cutT, Lt.joinI_nat hd hd, join_self O hd, allTs]
    | succ m =>
      rw [leastN]
      split
      · rw [cutT, List.map_map]
        congr 1
        refine List.map_congr_left fun x hx => ?_
        exact ih x hx (labBs_iff.1 hlab.2 x hx) m
      · rw [cutT]; rfl
theorem whole_may {L : Lt} (O : L.Ok) {v : ND} (hv : v.Sm) : mayB L v = true → MayT L (wholeN L v) := by
  induction hv with
  | @mk a d k c s t is ks hi hk ht hs h ih =>
    intro hmay
    have hm := hmay
    simp only [mayB, Bool.and_eq_true, labB_mk] at hm
    have hd := deepNs_lt O is _ O.bot hm.1.2
    have isn : ∀ x : Nat, x < L.n → L.is (x : Int) = true := fun x hx => by rw [Lt.is_nat]; simpa using hx
    rw [wholeN_mk]
    split
    · rename_i h6
      exact .mk hm.1.1 (isn _ O.bot) (by simpa using may_keys hmay h6) (may_rise hmay) (fun u hu => by obtain ⟨x, hx, rfl⟩ := List.mem_map.1 hu; exact ih x hx (may_item hmay hx))
    · exact .mk hm.1.1 (isn _ hd) rfl List.Pairwise.nil (fun u hu => by cases hu)
theorem least_may {L : Lt} (O : L.Ok) {v : ND} (hv : v.Sm) : mayB L v = true → ∀ m, MayT L (leastN L m v) := by
  induction hv with
  | @mk a d k c s t is ks hi hk ht hs h ih =>
    intro hmay m
    have hm := hmay
    simp only [mayB, Bool.and_eq_true, labB_mk] at hm
    have hd := deepNs_lt O is _ O.bot hm.1.2
    have isn : ∀ x : Nat, x < L.n → L.is (x : Int) = true := fun x hx => by rw [Lt.is_nat]; simpa using hx
    cases m with
    | zero => rw [leastN]; exact .mk hm.1.1 (isn _ hd) rfl List.Pairwise.nil (fun u hu => by cases hu)
    | succ m =>
      rw [leastN]
      split
      · rename_i h6
        exact .mk hm.1.1 (isn _ O.bot) (by simpa using may_keys hmay h6) (may_rise hmay) (fun u hu => by obtain ⟨x, hx, rfl⟩ := List.mem_map.1 hu; exact ih x hx (may_item hmay hx) m)
      · exact .mk hm.1.1 (isn _ hd) rfl List.Pairwise.nil (fun u hu => by cases hu)
theorem isTs_of {L : Lt} : ∀ (us : List TY) (p : Option ByteArray) (ks : List ByteArray) (d : Int), ks.length = us.length → (∀ q, p = some q → ∀ k ∈ ks, BLt q k) → ks.Pairwise BLt → (∀ u ∈ us, isT L u d = true) → isTs L p ks us d = true
  | [], p, ks, d, _, _, _, _ => by simp [isTs]
  | u :: us, p, [], d, hl, _, _, _ => by cases hl
  | u :: us, p, k :: ks, d, hl, hp, hr, hu => by
    have hr := List.pairwise_cons.1 hr
    rw [isTs_cons, hu u (List.mem_cons_self ..)]
    have ih := isTs_of us (some k) ks d (by simpa using hl) (fun q hq x hx => by cases hq; exact hr.1 x hx) hr.2 fun x hx => hu x (List.mem_cons_of_mem _ hx)
    cases p with
    | none =>
      show (!false && (true && isTs L (some k) ks us d)) = true
      rw [ih]; rfl
    | some q =>
      have : lebB k q = false := leO_false.2 (hp q rfl k (List.mem_cons_self ..))
      show (!(lebB k q) && (true && isTs L (some k) ks us d)) = true
      rw [ih, this]; rfl
theorem isT_of {L : Lt} {v : TY} {d : Int} (hm : MayT L v) (hd : d ≤ 3) (hu : ∀ u ∈ v.us, isT L u (IntKind.wrap .i64 (d + 1)) = true) : isT L v d = true := by
  obtain ⟨a, ks, us, r⟩ := v
  cases hm with
  | mk ha hr hl hp h =>
    rw [isT, ha, hr, isTs_of us none ks _ hl (fun q hq => by cases hq) hp hu, decide_eq_false (show ¬ d > 3 by omega)]
    simp [hl]
theorem least_is {L : Lt} (O : L.Ok) : ∀ (m : Nat) {v : ND}, v.Sm → mayB L v = true → ∀ d : Nat, d + m ≤ 3 → isT L (leastN L m v) d = true := by
  intro m
  induction m with
  | zero =>
    intro v hv hmay d hd
    refine isT_of (least_may O hv hmay 0) (by omega) ?_
    obtain ⟨a, dd, k, c, s, t, is, ks⟩ := v
    rw [leastN]
    intro u hu; cases hu
  | succ m ih =>
    intro v hv hmay d hd
    refine isT_of (least_may O hv hmay (m + 1)) (by omega) ?_
    obtain ⟨a, dd, k, c, s, t, is, ks⟩ := v
    have hw : IntKind.wrap .i64 ((d : Int) + 1) = ((d + 1 : Nat) : Int) := by rw [wrap64 (by omega) (by omega)]; simp
    rw [hw, leastN]
    split
    · intro u hu
      obtain ⟨x, hx, rfl⟩ := List.mem_map.1 hu
      refine ih ?_ (may_item hmay hx) (d + 1) (by omega)
      cases hv with | mk _ _ _ _ h => exact h x hx
    · intro u hu; cases hu
/-- A node fits what is one level everywhere, if all of it is below it. -/
theorem deepNs_mem {L : Lt} (O : L.Ok) : ∀ (is : List ND) (acc : Nat), acc < L.n → labBs L is = true → ∀ v ∈ is, L.leq (deepN L v) (deepNs L acc is) = true
  | [], _, _, _, v, hv => by cases hv
  | x :: is, acc, h, hl, v, hv => by
    simp only [labBs, Bool.and_eq_true] at hl
    have hd := deepN_lt O x hl.1
    have hj := O.join _ _ h hd
    rw [deepNs]
    rcases List.mem_cons.1 hv with rfl | hv
    · exact O.trans _ _ _ hd hj (deepNs_lt O is _ hj hl.2) (O.joinr _ _ h hd) (deepNs_ge O is _ hj hl.2)
    · exact deepNs_mem O is _ hj hl.2 v hv
theorem fits_plain {L : Lt} (O : L.Ok) {r : Nat} (hr : r < L.n) {v : ND} (hv : v.Sm) : mayB L v = true → L.leq (deepN L v) r = true → fitsN L v (.mk r [] [] r) = true := by
  induction hv with
  | @mk a d k c s t is ks hi hk ht hs h ih =>
    intro hmay hle
    have hm := hmay
    simp only [mayB, Bool.and_eq_true, labB_mk] at hm
    obtain ⟨a0, a1⟩ := Lt.is_iff.1 hm.1.1
    obtain ⟨p, rfl⟩ : ∃ p : Nat, a = p := ⟨a.toNat, by omega⟩
    have hp : p < L.n := by omega
    rw [deepN_mk, Int.toNat_natCast] at hle
    have hdl := deepNs_lt O is _ hp hm.1.2
    have hlar : L.leq p r = true := O.trans _ _ _ hp hdl hr (deepNs_ge O is _ hp hm.1.2) hle
    have hit : ∀ x ∈ is, L.leq (deepN L x) r = true := fun x hx => O.trans _ _ _ (deepN_lt O x (labBs_iff.1 hm.1.2 x hx)) hdl hr (deepNs_mem O is _ hp hm.1.2 x hx) hle
    rw [fitsN_mk, Bool.and_eq_true]
    refine ⟨by show L.leqI (p : Int) (r : Int) = true; rw [Lt.leqI_nat hp hr]; exact hlar, ?_⟩
    have fold : ∀ (l : List ND) (ks : List ByteArray), (∀ x ∈ l, x ∈ is) → fitsNs L l k ks (.mk r [] [] r) = true := by
      intro l
      induction l with
      | nil => intro ks _; simp [fitsNs]
      | cons x l lh =>
        intro ks hmm
        have hx := hmm x (List.mem_cons_self ..)
        obtain ⟨e1, e2⟩ := may_d O (may_item hmay hx)
        have hq : L.leqI x.d (r : Int) = true := by rw [e1, Lt.leqI_nat e2 hr]; exact hit x hx
        have hf : ∀ key, fitsN L x (ofT (.mk r [] [] r) key) = true := fun key => by
          have : ofT (.mk (r : Int) [] [] r) key = .mk r [] [] r := by unfold ofT; simp [TY.ks, TY.us, TY.r, ofL]
          rw [this]; exact ih x hx (may_item hmay hx) (hit x hx)
        rw [fitsNs_cons, lh _ fun y hy => hmm y (List.mem_cons_of_mem _ hy), Bool.and_true]
        cases ks with
        | nil => exact hq
        | cons key ks =>
          dsimp only
          split
          · exact hf key
          · exact hq
    exact fold is ks fun x hx => hx
theorem fits_least {L : Lt} (O : L.Ok) {v : ND} (hv : v.Sm) : mayB L v = true → ∀ m, fitsN L v (leastN L m v) = true := by
  induction hv with
  | @mk a d k c s t is ks hi hk ht hs h ih =>
    intro hmay m
    have hm := hmay
    simp only [mayB, Bool.and_eq_true, labB_mk] at hm
    obtain ⟨a0, a1⟩ := Lt.is_iff.1 hm.1.1
    obtain ⟨p, rfl⟩ : ∃ p : Nat, a = p := ⟨a.toNat, by omega⟩
    have hp : p < L.n := by omega
    have hdb := deepNs_lt O is _ O.bot hm.1.2
    have hself : L.leqI (p : Int) (p : Int) = true := by rw [Lt.leqI_nat hp hp]; exact O.refl _ hp
    have flat : fitsN L (.mk p d k c s t is ks) (.mk p [] [] (deepNs L L.bot is)) = true := by
      rw [fitsN_mk, Bool.and_eq_true]
      refine ⟨hself, ?_⟩
      have fold : ∀ (l : List ND) (ks : List ByteArray), (∀ x ∈ l, x ∈ is) → fitsNs L l k ks (.mk p [] [] (deepNs L L.bot is)) = true := by
        intro l
        induction l with
        | nil => intro ks _; simp [fitsNs]
        | cons x l lh =>
          intro ks hmm
          have hx := hmm x (List.mem_cons_self ..)
          obtain ⟨e1, e2⟩ := may_d O (may_item hmay hx)
          have hle := deepNs_mem O is _ O.bot hm.1.2 x hx
          have hq : L.leqI x.d (deepNs L L.bot is : Int) = true := by rw [e1, Lt.leqI_nat e2 hdb]; exact hle
          have hf : ∀ key, fitsN L x (ofT (.mk p [] [] (deepNs L L.bot is)) key) = true := fun key => by
            have : ofT (.mk (p : Int) [] [] (deepNs L L.bot is)) key = .mk (deepNs L L.bot is) [] [] (deepNs L L.bot is) := by unfold ofT; simp [TY.ks, TY.us, TY.r, ofL]
            rw [this]; exact fits_plain O hdb (h x hx) (may_item hmay hx) hle
          rw [fitsNs_cons, lh _ fun y hy => hmm y (List.mem_cons_of_mem _ hy), Bool.and_true]
          cases ks with
          | nil => exact hq
          | cons key ks =>
            dsimp only
            split
            · exact hf key
            · exact hq
      exact fold is ks fun x hx => hx
    cases m with
    | zero => rw [leastN]; exact flat
    | succ m =>
      rw [leastN]
      split
      · rename_i h6
        have hkl := may_keys hmay h6
        have hri := may_rise hmay
        rw [fitsN_mk, Bool.and_eq_true]
        refine ⟨hself, ?_⟩
        have fold : ∀ (j i : Nat), i + j = is.length → fitsNs L (is.drop i) k (ks.drop i) (.mk p ks (is.map (leastN L m)) L.bot) = true := by
          intro j
          induction j with
          | zero => intro i hij; rw [List.drop_eq_nil_of_le (by omega)]; simp [fitsNs]
          | succ j jh =>
            intro i hij
            have hl : i < is.length := by omega
            have hik : i < ks.length := by omega
            have hx := List.getElem_mem hl
            rw [drop_cons hl, drop_cons hik, fitsNs_cons]
            dsimp only
            rw [if_pos h6, List.tail_cons, jh (i + 1) (by omega), Bool.and_true]
            have : ofT (.mk (p : Int) ks (is.map (leastN L m)) L.bot) ks[i] = leastN L m is[i] := by
              unfold ofT
              show ofL ks (is.map (leastN L m)) ks[i] _ = _
              rw [ofL_at ks _ _ i hik (by simpa using hl) hri]; simp
            rw [this]
            exact ih is[i] hx (may_item hmay hx) m
        have := fold is.length 0 (by omega)
        rwa [List.drop_zero, List.drop_zero] at this
      · exact flat
end Go.Ab
