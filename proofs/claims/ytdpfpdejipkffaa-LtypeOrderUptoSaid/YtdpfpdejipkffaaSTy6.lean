/- The least type that a node fits, plainly. -/
import Derived.Test.YtdpfpdejipkffaaSTy5
namespace Go.Ab
set_option linter.unusedVariables false
set_option linter.unusedSimpArgs false
set_option linter.unusedSectionVars false
theorem least_ti (L : Lt) {v : ND} (hv : v.Sm) : ∀ m, (leastN L m v).Ti := by
  induction hv with
  | @mk a d k c s t is ks hi hk ht hs h ih =>
    intro m
    cases m with
    | zero => rw [leastN]; exact .mk (by simp) (by simp) (fun u hu => by cases hu)
    | succ m =>
      rw [leastN]
      split
      · exact .mk hk (by simpa using hi) (fun u hu => by obtain ⟨x, hx, rfl⟩ := List.mem_map.1 hu; exact ih x hx m)
      · exact .mk (by simp) (by simp) (fun u hu => by cases hu)
theorem keysOk_cons (p : Option ByteArray) (s : ByteArray) (r : List ByteArray) : keysOk p (s :: r) = (textB s && ((match p with | none => true | some q => !(leB s q)) && keysOk (some s) r)) := by
  cases p <;> simp [keysOk]
theorem keysOk_rise : ∀ (ks : List ByteArray) (p : Option ByteArray), keysOk p ks = true → (∀ q, p = some q → ∀ k ∈ ks, BLt q k) ∧ ks.Pairwise BLt
  | [], p, _ => ⟨fun q _ k hk => (by cases hk), List.Pairwise.nil⟩
  | k :: ks, p, h => by
    rw [keysOk_cons, Bool.and_eq_true, Bool.and_eq_true] at h
    obtain ⟨_, h2, h3⟩ := h
    obtain ⟨q1, q2⟩ := keysOk_rise ks (some k) h3
    refine ⟨fun q hq x hx => ?_, List.pairwise_cons.2 ⟨q1 k rfl, q2⟩⟩
    subst hq
    have hb : BLt q k := leO_false.1 (by simpa [leB] using h2)
    rcases List.mem_cons.1 hx with rfl | hx
    · exact hb
    · exact hb.trans (q1 k rfl x hx)
theorem may_rise {L : Lt} {a d k c s : Int} {t : ByteArray} {is : List ND} {ks : List ByteArray} (h : mayB L (.mk a d k c s t is ks) = true) : ks.Pairwise BLt := by
  simp only [mayB, Bool.and_eq_true, strip_mk, shapeB_mk] at h
  have h5 := h.2.2.2.1
  simp only [isR, Bool.and_eq_true] at h5
  exact (keysOk_rise ks none h5.2.2.2.2.2.2.2.1).2
theorem deep_bot {L : Lt} (O : L.Ok) {is : List ND} (hl : labBs L is = true) {x : Nat} (hx : x < L.n) : L.join x (deepNs L L.bot is) = deepNs L x is := by
  have h1 := deepNs_join O hx is L.bot O.bot hl
  have hb : L.join L.bot x = x := O.join_eq O.bot hx hx (O.botle _ hx) (O.refl _ hx) fun d hd _ y => y
  rw [hb] at h1
  rw [O.join_comm hx (deepNs_lt O is _ O.bot hl), h1]
theorem join_self {L : Lt} (O : L.Ok) {x : Nat} (hx : x < L.n) : L.join x x = x := O.join_eq hx hx hx (O.refl _ hx) (O.refl _ hx) fun d hd y _ => y
theorem join_botR {L : Lt} (O : L.Ok) {x : Nat} (hx : x < L.n) : L.join x L.bot = x := O.join_eq hx O.bot hx (O.refl _ hx) (O.botle _ hx) fun d hd y _ => y
/-- All labels of the whole type are the node's. -/
theorem all_whole {L : Lt} (O : L.Ok) {v : ND} (hv : v.Sm) : labB L v = true → allT L (wholeN L v) = deepN L v := by
  induction hv with
  | @mk a d k c s t is ks hi hk ht hs h ih =>
    intro hlab
    rw [labB_mk, Bool.and_eq_true] at hlab
    obtain ⟨a0, a1⟩ := Lt.is_iff.1 hlab.1
    obtain ⟨p, rfl⟩ : ∃ p : Nat, a = p := ⟨a.toNat, by omega⟩
    have hp : p < L.n := by omega
    have fold : ∀ (l : List ND) (acc : Nat), (∀ x ∈ l, x ∈ is) → allTs L acc (l.map (wholeN L)) = deepNs L acc l := by
      intro l
      induction l with
      | nil => intro acc _; simp [allTs, deepNs]
      | cons x l lh =>
        intro acc hm
        have hx := hm x (List.mem_cons_self ..)
        rw [List.map_cons, allTs, deepNs, ih x hx (labBs_iff.1 hlab.2 x hx)]
        exact lh _ fun y hy => hm y (List.mem_cons_of_mem _ hy)
    rw [wholeN_mk, deepN_mk, Int.toNat_natCast]
    split
    · rw [allT_mk, Lt.joinI_nat hp O.bot, join_botR O hp]
      exact fold is p fun x hx => hx
    · rw [allT_mk, Lt.joinI_nat hp (deepNs_lt O is _ O.bot hlab.2), allTs]
      exact deep_bot O hlab.2 hp
theorem cut_whole {L : Lt} (O : L.Ok) {v : ND} (hv : v.Sm) : labB L v = true → ∀ m, cutT L m (wholeN L v) = leastN L m v := by
  induction hv with
  | @mk a d k c s t is ks hi hk ht hs h ih =>
    intro hlab m
    have hlab' := hlab
    rw [labB_mk, Bool.and_eq_true] at hlab
    have hd := deepNs_lt O is _ O.bot hlab.2
    rw [wholeN_mk]
    cases m with
    | zero =>
      rw [leastN]
      split
      · rw [cutT, Lt.joinI_nat O.bot O.bot, join_self O O.bot]
        congr 2
        have fold : ∀ (l : List ND) (acc : Nat), (∀ x ∈ l, x ∈ is) → allTs L acc (l.map (wholeN L)) = deepNs L acc l := by
          intro l
          induction l with
          | nil => intro acc _; simp [allTs, deepNs]
          | cons x l lh =>
            intro acc hm
            have hx := hm x (List.mem_cons_self ..)
            rw [List.map_cons, allTs, deepNs, all_whole O (h x hx) (labBs_iff.1 hlab.2 x hx)]
            exact lh _ fun y hy => hm y (List.mem_cons_of_mem _ hy)
        exact fold is L.bot fun x hx => hx
      · rw [cutT, Lt.joinI_nat hd hd, join_self O hd, allTs]
    | succ m =>
      rw [leastN]
      split
      · rw [cutT, List.map_map]
        congr 1
        refine List.map_congr_left fun x hx => ?_
        exact ih x hx (labBs_iff.1 hlab.2 x hx) m
      · rw [cutT]; rfl
theorem whole_may {L : Lt} (O : L.Ok) {v : ND} (hv : v.Sm) : mayB L v = true → MayT L (wholeN L v) := by
  induction hv with
  | @mk a d k c s t is ks hi hk ht hs h ih =>
    intro hmay
    have hm := hmay
    simp only [mayB, Bool.and_eq_true, labB_mk] at hm
    have hd := deepNs_lt O is _ O.bot hm.1.2
    have isn : ∀ x : Nat, x < L.n → L.is (x : Int) = true := fun x hx => by rw [Lt.is_nat]; simpa using hx
    rw [wholeN_mk]
    split
    · rename_i h6
      exact .mk hm.1.1 (isn _ O.bot) (by simpa using may_keys hmay h6) (may_rise hmay) (fun u hu => by obtain ⟨x, hx, rfl⟩ := List.mem_map.1 hu; exact ih x hx (may_item hmay hx))
    · exact .mk hm.1.1 (isn _ hd) rfl List.Pairwise.nil (fun u hu => by cases hu)
theorem least_may {L : Lt} (O : L.Ok) {v : ND} (hv : v.Sm) : mayB L v = true → ∀ m, MayT L (leastN L m v) := by
  induction hv with
  | @mk a d k c s t is ks hi hk ht hs h ih =>
    intro hmay m
    have hm := hmay
    simp only [mayB, Bool.and_eq_true, labB_mk] at hm
    have hd := deepNs_lt O is _ O.bot hm.1.2
    have isn : ∀ x : Nat, x < L.n → L.is (x : Int) = true := fun x hx => by rw [Lt.is_nat]; simpa using hx
    cases m with
    | zero => rw [leastN]; exact .mk hm.1.1 (isn _ hd) rfl List.Pairwise.nil (fun u hu => by cases hu)
    | succ m =>
      rw [leastN]
      split
      · rename_i h6
        exact .mk hm.1.1 (isn _ O.bot) (by simpa using may_keys hmay h6) (may_rise hmay) (fun u hu => by obtain ⟨x, hx, rfl⟩ := List.mem_map.1 hu; exact ih x hx (may_item hmay hx) m)
      · exact .mk hm.1.1 (isn _ hd) rfl List.Pairwise.nil (fun u hu => by cases hu)
end Go.Ab
