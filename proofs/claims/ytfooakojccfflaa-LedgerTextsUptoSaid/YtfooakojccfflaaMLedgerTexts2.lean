/- The row LedgerTexts, part 2 of 6: texts written for this work, merged by a program of the session. No condition. -/
import Derived.ChangeKeysEq
import Derived.Lib.ConvBytes
import Derived.Laws.AppendOwn
import Derived.Carry
import Derived.ChangeArms
import Derived.OpenShut
import Derived.SizedLaws
import Derived.WideShapes
import Derived.Deep.Slices
import Derived.Below
import Derived.Test.YtfooakojccfflaaMLedgerTexts1
set_option linter.unusedVariables false
set_option linter.unusedSimpArgs false
set_option linter.unusedSectionVars false
section
namespace Go.Ab
section
variable {P : Program} {W0 W W' : World} {S0 M S S' : Nat → Prop} {ρ ρ' : Nat → Place} {h h' : Heap} {st : St} {a : Act} {β : Type} {r : β} {o : Oper} {K : LV → St → Option β} {key : Nat} {R : Nat → List TV → Option Ans}
theorem backs_ok (h0 : Heap) : ∀ (ks : List Nat) (vs : List LV) (st : St) {K : St → Option β}, ks.Nodup → backs h0 ks vs st K = some r →
    ∃ stF, K stF = some r ∧ stF.env = st.env ∧ (∀ k, k ∉ ks → aget k stF.heap = aget k st.heap) ∧ vs.length = ks.length ∧ (∀ (j k : Nat) (v : LV), ks[j]? = some k → vs[j]? = some v → ∃ n agg u, aget k h0 = some (.var n agg u) ∧ aget k stF.heap = some (.var n agg v))
  | [], [], st, K, _, e => ⟨st, e, rfl, fun _ _ => rfl, rfl, fun j k v hk _ => by simp at hk⟩
  | k :: ks, v :: vs, st, K, hn, e => by
    simp only [backs] at e
    rw [List.nodup_cons] at hn
    split at e
    · rename_i n agg u hk
      obtain ⟨stF, e, h1, h2, h3, h4⟩ := backs_ok h0 ks vs _ hn.2 e
      refine ⟨stF, e, h1, fun k' hk' => ?_, by simp [h3], fun j k' v' hj hv => ?_⟩
      · simp only [List.mem_cons, not_or] at hk'
        rw [h2 k' hk'.2]
        simp only [St.set, aget_aset]
        rw [if_neg (fun e => hk'.1 e.symm)]
      · cases j with
        | zero =>
          simp at hj hv; subst hj; subst hv
          refine ⟨n, agg, u, hk, ?_⟩
          rw [h2 k hn.1]
          simp only [St.set, aget_aset, if_true]
        | succ j => exact h4 j k' v' (by simpa using hj) (by simpa using hv)
    · cases e
  | [], _ :: _, _, _, _, e => by cases e
  | _ :: _, [], _, _, _, e => by cases e
theorem HInv.lend (I : HInv W0 S0 M W S ρ h) {ks : List Nat} {vs : List LV} {hF : Heap} (hvs : vs.length = ks.length) (pk : Poke W (fun b => b ∈ ks.map fun k => (ρ k).B) W') (hS : ∀ b, S b → S' b) (hS' : ∀ b, S' b → S b ∨ W.heap.size ≤ b ∨ b ∈ ks.map fun k => (ρ k).B) (hlt : ∀ b, S' b → b < W'.heap.size)
    (hout : ∀ k, k ∉ ks → aget k hF = aget k h) (hin : ∀ (j k : Nat) (v : LV), ks[j]? = some k → vs[j]? = some v → ∃ n agg u, aget k h = some (.var n agg u) ∧ aget k hF = some (.var n agg v) ∧ VarAt W' S' ρ00 [] (ρ k).B n agg v ∧ Thaw W' (ρ k).B 0 n ∧ ¬ S' (ρ k).B ∧ closed 3 v = true) :
    HInv W0 S0 M W' S' ρ hF ∧ Later W S ρ h W' S' ρ hF := by
  have hin' : ∀ k ∈ ks, ∃ n agg u v, aget k h = some (.var n agg u) ∧ aget k hF = some (.var n agg v) ∧ VarAt W' S' ρ00 [] (ρ k).B n agg v ∧ Thaw W' (ρ k).B 0 n ∧ ¬ S' (ρ k).B ∧ closed 3 v = true := fun k hk => by
    obtain ⟨j, hj⟩ := List.getElem?_of_mem hk
    have hjl : j < vs.length := by have := (List.getElem?_eq_some_iff.1 hj).1; omega
    obtain ⟨n, agg, u, h1⟩ := hin j k _ hj (List.getElem?_eq_getElem hjl)
    exact ⟨n, agg, u, _, h1⟩
  have hX : ∀ b, (b ∈ ks.map fun k => (ρ k).B) → ¬ S b := fun b hb hs => by
    obtain ⟨k, hk, rfl⟩ := List.mem_map.1 hb
    obtain ⟨n, agg, u, v, _, _, _, _, h1, _⟩ := hin' k hk
    exact h1 (hS _ hs)
  have L : Later W S ρ h W' S' ρ hF := ⟨hS, fun b hb => pk.block b (I.lt b hb) (fun hx => hX b hx hb), fun k b hb => by
    refine ⟨rfl, ?_⟩
    by_cases hk : k ∈ ks
    · obtain ⟨n, agg, u, v, h1, h2, _⟩ := hin' k hk
      rw [hb] at h1; cases h1
      exact ⟨_, h2, .inr (.inr ⟨n, agg, rfl, rfl⟩)⟩
    · exact ⟨b, (hout k hk).trans hb, b.le_refl⟩⟩
  have notX : ∀ k b, k ∉ ks → aget k h = some b → b.owned = true → (ρ k).B ∉ ks.map fun k => (ρ k).B := fun k b hk hb ho hx => by
    obtain ⟨k', hk', he⟩ := List.mem_map.1 hx
    obtain ⟨n, agg, u, v, h1, _⟩ := hin' k' hk'
    exact I.dis k' k _ b h1 hb rfl ho (fun e => hk (e ▸ hk')) he
  have old : ∀ k b, aget k hF = some b → b.owned = true → ∃ b', aget k h = some b' ∧ b'.owned = true := fun k b hb ho => by
    by_cases hk : k ∈ ks
    · obtain ⟨n, agg, u, v, h1, h2, _⟩ := hin' k hk
      exact ⟨_, h1, rfl⟩
    · exact ⟨b, (hout k hk).symm.trans hb, ho⟩
  refine ⟨⟨I.ext.poke pk (fun b hb => ?_), fun b hb => hS b (I.sub b hb), fun b hb => ?_, hlt, fun k b hb => ?_, fun k b hb ho => ?_, fun k k' b b' hb hb' ho ho' hne => ?_⟩, L⟩
  · obtain ⟨k, hk, rfl⟩ := List.mem_map.1 hb
    obtain ⟨n, agg, u, v, h1, _⟩ := hin' k hk
    exact I.own k _ h1 rfl
  · rcases hS' b hb with h1 | h1 | h1
    · exact I.sup b h1
    · exact .inr (.inl (Nat.le_trans I.ext.size h1))
    · obtain ⟨k, hk, rfl⟩ := List.mem_map.1 h1
      obtain ⟨n, agg, u, v, h1, _⟩ := hin' k hk
      exact .inr (I.own k _ h1 rfl)
  · by_cases hk : k ∈ ks
    · obtain ⟨n, agg, u, v, h1, h2, V, thaw, hnS, hcl⟩ := hin' k hk
      rw [h2] at hb; cases hb
      exact ⟨hnS, (I.blk k _ h1).2.1, V.closed (fun _ h => h) (fun _ _ => rfl) rfl (Nat.le_refl _) hcl, thaw⟩
    · rw [hout k hk] at hb
      have r := I.blk k b hb
      have keep : b.owned = true → W'.heap[(ρ k).B]? = W.heap[(ρ k).B]? := fun ho => pk.block _ (r.lt (by intro e; subst e; cases ho)) (notX k b hk hb ho)
      have keepS : b.owned = true → ¬ S (ρ k).B → ¬ S' (ρ k).B := fun ho hn hs => by
        have hl := r.lt (by intro e; subst e; cases ho)
        rcases hS' _ hs with h1 | h1 | h1
        · exact hn h1
        · omega
        · exact notX k b hk hb ho h1
      cases b with
      | dead => trivial
      | row sz agg xs => exact r.later L (keep rfl) pk.size (fun hn _ => keepS rfl hn)
      | var n agg v => exact r.later L (keep rfl) pk.size (fun hn _ => keepS rfl hn)
      | itr s pos => exact r.later L (keep rfl) pk.size (fun hn _ => keepS rfl hn)
      | ice sz agg xs => exact r.later L (L.w _ r.1) pk.size (fun _ ho => by cases ho)
      | icv n agg e => exact r.later L (L.w _ r.1) pk.size (fun _ ho => by cases ho)
  · obtain ⟨b', hb', ho'⟩ := old k b hb ho
    exact I.own k b' hb' ho'
  · obtain ⟨c, hc, hco⟩ := old k b hb ho
    obtain ⟨c', hc', hco'⟩ := old k' b' hb' ho'
    exact I.dis k k' c c' hc hc' hco hco' hne
theorem take1_ok {m : Mode} {t : TV} {x : Value} {B : Option Nat} {st : St} {K : LV → St → Option β} (I : HInv W0 S0 M W S ρ st.heap) (RT : RepT W S t x B) (hB : ∀ b, B = some b → (W0.heap.size ≤ b ∨ M b) ∧ ∀ k c, aget k st.heap = some c → c.owned = true → (ρ k).B ≠ b) (e : take1 key m t st K = some r) :
    ∃ v st' ρ', K v st' = some r ∧ st'.env = st.env ∧ HInv W0 S0 M W S ρ' st'.heap ∧ Later W S ρ st.heap W S ρ' st'.heap ∧ RepL W S ρ' st'.heap v x ∧ (∀ k c, aget k st'.heap = some c → c.owned = true → (∃ c', aget k st.heap = some c' ∧ c'.owned = true ∧ ρ' k = ρ k) ∨ B = some (ρ' k).B) := by
  cases m with
  | fz =>
    simp only [take1] at e
    replace e := when_some e; obtain ⟨hf, e⟩ := e
    cases t <;> simp only [TV.isF] at hf <;> try cases hf
    obtain ⟨_, R⟩ := RT
    exact ⟨_, st, ρ, e, rfl, I, Later.refl _ _ _ _, .fz R, fun k c hc ho => .inl ⟨c, hc, ho, rfl⟩⟩
  | uq sz agg =>
    simp only [take1] at e
    split at e
    · rename_i hem
      cases t <;> simp only [TV.isEm] at hem <;> try cases hem
      obtain ⟨_, ad, rfl⟩ := RT
      exact ⟨_, st, ρ, e, rfl, I, Later.refl _ _ _ _, .nils ad, fun k c hc ho => .inl ⟨c, hc, ho, rfl⟩⟩
    · rename_i hem
      clear hem
      replace e := when_some e; obtain ⟨hs, e⟩ := e
      have hp : ∃ xs, t = .uq sz agg xs := by
        cases t with
        | uq sz' agg' xs =>
          simp only [TV.isUq] at hs
          obtain ⟨rfl, rfl⟩ := and_eq hs
          exact ⟨xs, rfl⟩
        | _ => cases hs
      obtain ⟨xs, rfl⟩ := hp
      simp only [TV.xs] at e
      split at e
      · rename_i hk
        obtain ⟨p, rfl, rfl, A, thaw, hnS⟩ := RT
        obtain ⟨h1, h2⟩ := hB p.B rfl
        obtain ⟨I2, L2⟩ := I.add (key := key) (p := p) (b := .row sz agg xs) hk rfl h1 h2 (fun ρ' h' L => ⟨hnS, A, thaw⟩)
        refine ⟨_, _, _, e, rfl, I2, L2, .rw key _ (.row sz agg xs) (by simp only [St.set, aget_aset, if_true]) (fun s g ys h => by cases h; simp [upd]) rfl, fun k c hc ho => ?_⟩
        simp only [St.set, aget_aset] at hc
        by_cases ek : key = k
        · subst ek; right; simp [upd]
        · rw [if_neg ek] at hc
          left; exact ⟨c, hc, ho, by simp only [upd]; rw [if_neg (fun e => ek (Eq.symm e))]⟩
      · cases e
  | pv n agg =>
    simp only [take1] at e
    split at e
    · replace e := when_some e; obtain ⟨hn, e⟩ := e
      rename_i hf
      cases t <;> simp only [TV.isF] at hf <;> try cases hf
      rename_i fe
      obtain ⟨_, R⟩ := RT
      simp only [TV.toF] at hn
      cases fe <;> simp only [FV.isNil] at hn <;> try cases hn
      exact ⟨_, st, ρ, e, rfl, I, Later.refl _ _ _ _, .fz R, fun k c hc ho => .inl ⟨c, hc, ho, rfl⟩⟩
    · replace e := when_some e; obtain ⟨hs, e⟩ := e
      have hp : ∃ fe, t = .pv n agg (.fz fe) := by
        cases t with
        | pv n' agg' v =>
          cases v with
          | fz fe =>
            simp only [TV.isPv] at hs
            obtain ⟨rfl, rfl⟩ := and_eq hs
            exact ⟨fe, rfl⟩
          | _ => cases hs
        | _ => cases hs
      obtain ⟨fe, rfl⟩ := hp
      simp only [TV.toV] at e
      split at e
      · rename_i hk
        obtain ⟨b, rfl, rfl, V, thaw, hnS, hcl⟩ := RT
        obtain ⟨h1, h2⟩ := hB b rfl
        obtain ⟨I2, L2⟩ := I.add (key := key) (p := ⟨b, 0, n⟩) (b := .var n agg (.fz fe)) hk rfl h1 h2 (fun ρ' h' L => ⟨hnS, rfl, V.closed (fun _ h => h) (fun _ _ => rfl) rfl (Nat.le_refl _) hcl, thaw⟩)
        refine ⟨_, _, _, e, rfl, I2, L2, .ptr key 0 0 _ (.var n agg (.fz fe)) (by simp only [St.set, aget_aset, if_true]) (fun _ _ _ h => by cases h) (fun m g h => by cases h; simp [upd]) rfl, fun k c hc ho => ?_⟩
        simp only [St.set, aget_aset] at hc
        by_cases ek : key = k
        · subst ek; right; simp [upd]
        · rw [if_neg ek] at hc
          left; exact ⟨c, hc, ho, by simp only [upd]; rw [if_neg (fun e => ek (Eq.symm e))]⟩
      · cases e
theorem takes_ok : ∀ (ms : List Mode) (ts : List TV) (xs : List Value) (Bs : List Nat) (key : Nat) (st : St) (ρ : Nat → Place) {K : List LV → St → Option β}, HInv W0 S0 M W S ρ st.heap → RepTs W S ts xs Bs → (∀ b ∈ Bs, (W0.heap.size ≤ b ∨ M b) ∧ ∀ k c, aget k st.heap = some c → c.owned = true → (ρ k).B ≠ b) → takes key ms ts st K = some r →
    ∃ l st' ρ', K l st' = some r ∧ st'.env = st.env ∧ HInv W0 S0 M W S ρ' st'.heap ∧ Later W S ρ st.heap W S ρ' st'.heap ∧ l.length = xs.length ∧ ∀ (j : Nat) (v : LV) (x : Value), l[j]? = some v → xs[j]? = some x → RepL W S ρ' st'.heap v x
  | [], [], xs, Bs, key, st, ρ, K, I, hR, _, e => by
    cases xs with
    | nil => exact ⟨[], st, ρ, e, rfl, I, Later.refl _ _ _ _, rfl, fun j v x hv _ => by simp at hv⟩
    | cons x xs => exact hR.elim
  | m :: ms, t :: ts, xs, Bs, key, st, ρ, K, I, hR, hB, e => by
    cases xs with
    | nil => exact hR.elim
    | cons x xs =>
    obtain ⟨B, Bs', RT, hR', hbs⟩ := hR
    simp only [takes] at e
    have hsub : (∀ b, B = some b → b ∈ Bs ∧ b ∉ Bs') ∧ ∀ b ∈ Bs', b ∈ Bs := by
      cases B with
      | none => exact ⟨fun b h => (by cases h), fun b hb => (show Bs = Bs' from hbs) ▸ hb⟩
      | some b0 =>
        obtain ⟨rfl, hn⟩ := hbs
        exact ⟨fun b h => (by cases h; exact ⟨List.mem_cons_self, hn⟩), fun b hb => List.mem_cons_of_mem _ hb⟩
    obtain ⟨v, st1, ρ1, e1, he1, I1, L1, R1, hnew⟩ := take1_ok I RT (fun b hb => hB b (hsub.1 b hb).1) e
    obtain ⟨l, st2, ρ2, e2, he2, I2, L2, hl2, R2⟩ := takes_ok ms ts xs Bs' (key + 1) st1 ρ1 I1 hR' (fun b hb => ⟨(hB b (hsub.2 b hb)).1, fun k c hc ho hE => by
      rcases hnew k c hc ho with ⟨c', hc', ho', hρ⟩ | hBk
      · exact (hB b (hsub.2 b hb)).2 k c' hc' ho' (hρ ▸ hE)
      · exact (hsub.1 _ hBk).2 (hE ▸ hb)⟩) e1
    refine ⟨v :: l, st2, ρ2, e2, he2.trans he1, I2, L1.trans L2, by simp [hl2], fun j v' x' hv hx => ?_⟩
    cases j with
    | zero => simp at hv hx; subst hv; subst hx; exact R1.later L2
    | succ j => exact R2 j v' x' (by simpa using hv) (by simpa using hx)
  | [], _ :: _, _, _, _, _, _, _, _, _, _, e => by cases e
  | _ :: _, [], _, _, _, _, _, _, _, _, _, e => by cases e
theorem one_rep {l : List LV} {ys : List Value} (hl : l.length = ys.length) (hh : ∀ (j : Nat) (v : LV) (x : Value), l[j]? = some v → ys[j]? = some x → RepL W S ρ h v x) : RepL W S ρ h (one l) (oneV ys) := by
  match l, ys, hl with
  | [], [], _ => exact .tup [] #[] rfl (fun j e v he _ => by simp at he)
  | [v], [y], _ => exact hh 0 v y rfl rfl
  | v :: v' :: l, y :: y' :: ys, hl =>
    simp only [one, oneV]
    exact .tup _ _ (by simpa using hl.symm) (fun j e v he hv => hh j e v he (by simpa using hv))
theorem take1_det {m : Mode} {t : TV} {st : St} {K : LV → St → Option β} (e : take1 key m t st K = some r) : ∃ v st', K v st' = some r ∧ st'.env = st.env ∧ take1 key m t st (fun v s => some (v, s)) = some (v, st') := by
  cases m <;> simp only [take1] at e ⊢
  case fz =>
    obtain ⟨h1, e⟩ := when_some e
    exact ⟨_, _, e, rfl, by rw [h1]; rfl⟩
  case uq sz agg =>
    split at e
    · rename_i hq; exact ⟨_, _, e, rfl, by simp only [hq]⟩
    · rename_i hq
      obtain ⟨h1, e⟩ := when_some e
      split at e
      · rename_i hk
        exact ⟨_, _, e, rfl, by simp only [hq, h1, hk]; rfl⟩
      · cases e
  case pv n agg =>
    split at e
    · rename_i hq
      obtain ⟨h1, e⟩ := when_some e
      exact ⟨_, _, e, rfl, by simp only [hq, h1]; rfl⟩
    · rename_i hq
      obtain ⟨h1, e⟩ := when_some e
      split at e
      · rename_i hk
        exact ⟨_, _, e, rfl, by simp only [hq, h1, hk]; rfl⟩
      · cases e
theorem take1_fun {m : Mode} {t : TV} {st st1 : St} {v : LV} (h1 : take1 key m t st (fun v s => some (v, s)) = some (v, st1)) {γ : Type} (K' : LV → St → Option γ) : take1 key m t st K' = K' v st1 := by
  cases m <;> simp only [take1] at h1 ⊢
  case fz =>
    obtain ⟨q, h1⟩ := when_some h1
    cases h1; rw [q]; rfl
  case uq sz agg =>
    split at h1
    · rename_i hq; cases h1; simp only [hq]
    · rename_i hq
      obtain ⟨q, h1⟩ := when_some h1
      split at h1
      · rename_i hk; cases h1; simp only [hq, q, hk]; rfl
      · cases h1
  case pv n agg =>
    split at h1
    · rename_i hq
      obtain ⟨q, h1⟩ := when_some h1
      cases h1; simp only [hq, q]; rfl
    · rename_i hq
      obtain ⟨q, h1⟩ := when_some h1
      split at h1
      · rename_i hk; cases h1; simp only [hq, q, hk]; rfl
      · cases h1
theorem takes_fac : ∀ (ms : List Mode) (ts : List TV) (key : Nat) (st : St) {β : Type} {r : β} {K : List LV → St → Option β}, takes key ms ts st K = some r → ∃ l st', st'.env = st.env ∧ ∀ {γ : Type} (K' : List LV → St → Option γ), takes key ms ts st K' = K' l st'
  | [], [], key, st, _, _, K, e => ⟨[], st, rfl, fun _ => rfl⟩
  | m :: ms, t :: ts, key, st, _, _, K, e => by
    simp only [takes] at e ⊢
    obtain ⟨v, st1, e1, he1, h1⟩ := take1_det e
    obtain ⟨l, st2, he2, h2⟩ := takes_fac ms ts (key + 1) st1 e1
    exact ⟨v :: l, st2, he2.trans he1, fun {γ} K' => by rw [take1_fun h1, h2]⟩
  | [], _ :: _, _, _, _, _, _, e => by cases e
  | _ :: _, [], _, _, _, _, _, e => by cases e
theorem pv_of_key {W : World} {S : Nat → Prop} : ∀ {ts : List TV} {xs : List Value} {Bs Cs : List Nat} {c : Nat}, RepTs W S ts xs Bs → ts.all TV.lends = true → c ∈ Bs → (∀ (t : TV) (x : Value) (b : Nat) (n : Nat) (agg : Bool) (u : LV), (t, x) ∈ ts.zip xs → t = .pv n agg u → x = .pointer (some ⟨b, 0, none⟩) → b ∉ Cs) → c ∈ Cs → False
  | [], [], Bs, Cs, c, hR, _, hc, _, _ => by cases hR; cases hc
  | t :: ts, x :: xs, Bs, Cs, c, hR, hall, hc, hnp, hcC => by
    obtain ⟨B, Bs', RT, hR', hbs⟩ := hR
    simp only [List.all_cons, Bool.and_eq_true] at hall
    have rest : c ∈ Bs' → False := fun hc' => pv_of_key hR' hall.2 hc' (fun t x b n agg u hz ht hx => hnp t x b n agg u (by simp [hz]) ht hx) hcC
    cases B with
    | none => exact rest ((show Bs = Bs' from hbs) ▸ hc)
    | some b =>
      obtain ⟨rfl, _⟩ := hbs
      rcases List.mem_cons.1 hc with rfl | hc'
      · cases t with
        | pv n agg u =>
          obtain ⟨b', hb', hx, _⟩ := RT
          cases hb'
          exact hnp (.pv n agg u) x c n agg u (by simp) rfl hx hcC
        | fz e => cases RT.1
        | em => cases RT.1
        | uq sz agg xs => cases hall.1
      · exact rest hc'
  | [], _ :: _, _, _, _, hR, _, _, _, _ => hR.elim
  | _ :: _, [], _, _, _, hR, _, _, _, _ => hR.elim
theorem call_good {f : Nat} {args : Array Operand} {ats : Array TypeId} {qs : List (Opnd × Mode)} {outs : List Mode} (ho : o.op = .call { callee := .value (.func f), args := args, argTypes := ats }) (hR : OkB P R W0 S0 M) (hq : args.toList.map opn = (qs.map Prod.fst).map some) (I : HInv W0 S0 M W S ρ st.heap) (E : EInv W S ρ st.heap st.env a)
    (e : stepI R key st (.call f qs outs) K = some r) : Good P W0 S0 M o a W S ρ st K r := by
  simp only [stepI] at e
  replace e := evs_ok E _ _ hq e; obtain ⟨vs, e, hvl, hvr⟩ := e
  have hql : args.toList.length = qs.length := by have := congrArg List.length hq; simpa using this
  replace e := gives_ok (vs.zip (qs.map Prod.snd)) (args.toList.map a.eval) S st.heap (by simp [hvl] at *; omega) I (fun j p x hp hx => by
    rw [List.getElem?_zip_eq_some] at hp
    rw [List.getElem?_map] at hx
    obtain ⟨y, hy, rfl⟩ := Option.map_eq_some_iff.1 hx
    exact hvr j p.1 y hp.1 hy) e
  obtain ⟨gs, h1, S1, e, I1, L1, RG⟩ := e
  replace e := fills_ok I1 gs _ RG e; obtain ⟨ts, ks, e, q1, q2, q3, q4, q5⟩ := e
  replace e := when_some e; obtain ⟨hb, e⟩ := e
  simp only [Bool.and_eq_true] at hb
  obtain ⟨hn, hlends⟩ := hb
  have hn := nodupB_iff.1 hn
  split at e
  · cases e
  · rename_i ans hans
    rw [answered_eq] at e
    replace e := when_some e; obtain ⟨_, e⟩ := e
    replace e := backs_ok h1 ks ans.2 _ hn e; obtain ⟨stF, e, he1, hout, hlen, hin⟩ := e
    obtain ⟨⟨fn, hfn, hname, hbody⟩, C⟩ := hR.1 f ts ans hans
    have hname' : ¬ fn.name = "runtime.NumGoroutine" := by simpa using hname
    have hbody' : ¬ fn.body = none := fun h => by rw [h] at hbody; cases hbody
    have hrun : (execOp a.eval o).run P W = .ok (.enter f (args.map a.eval)) W := by
      simp [execOp, ho, resolve, Deferred.ofValue, Act.eval, invoke, callFunc, hfn, hname', hbody']
    have hRT := q1 hn
    have CC := C W S1 (args.map a.eval) (ks.map fun k => (ρ k).B) I1.lt (hR.2.now I1) (by simpa using hRT)
    obtain ⟨l, st2, henv2, hfac⟩ := takes_fac _ _ _ _ e
    rw [hfac] at e
    refine ⟨one l, st2, e, henv2.trans he1, ?_⟩
    unfold OpRes; rw [hrun]
    refine CC.mono fun ee W' hpost => ?_
    cases ee with
    | panicked c => exact hpost.elim
    | outgrown => exact hpost.elim
    | returned v =>
    obtain ⟨⟨S', ys, Cs, rfl, hSS, hS', hlt, hRes, hCs, hBk, hnp⟩, hext⟩ := hpost
    have hargs : (args.map a.eval).toList = args.toList.map a.eval := by simp
    rw [hargs] at hBk
    obtain ⟨hlen2, hback⟩ := q5 hlends h1 W' S' ans.2 hBk
    have pk : Poke W (fun b => b ∈ ks.map fun k => (ρ k).B) W' := ⟨hext.os, hext.tape, hext.output, hext.size, hext.block⟩
    obtain ⟨I2, L2⟩ := I1.lend (hF := stF.heap) hlen2 pk hSS hS' hlt (fun k hk => hout k hk) (fun j k v hj hv => by
      obtain ⟨n, agg, u, p1, p2, p3, p4, p5⟩ := hback j k v hj hv
      obtain ⟨n', agg', u', p6, p7⟩ := hin j k v hj hv
      rw [p1] at p6; cases p6
      exact ⟨n, agg, u, p1, p7, p2, p3, p4, p5⟩)
    have hfresh : ∀ c ∈ Cs, W.heap.size ≤ c := fun c hc => by
      rcases hCs c hc with h0 | h0
      · exact h0
      · exfalso
        obtain ⟨k, hk, rfl⟩ := List.mem_map.1 h0
        exact pv_of_key hRT hlends h0 (fun t x b n agg u hz ht hx => hnp t x b n agg u (by rw [hargs]; exact hz) ht hx) hc
    obtain ⟨l', st', ρ', e', he', I3, L3, hl3, R3⟩ := takes_ok (K := fun l s => some (l, s)) (r := (l, st2)) outs ans.1 ys Cs key stF ρ I2 hRes (fun b hb => ⟨.inl (Nat.le_trans I1.ext.size (hfresh b hb)), fun k c hc hco hE => by
      have hold : ∃ c', aget k h1 = some c' ∧ c'.owned = true := by
        by_cases hk : k ∈ ks
        · obtain ⟨n, agg, v, hv⟩ := q3 hlends k hk
          exact ⟨_, hv, rfl⟩
        · exact ⟨c, (hout k hk).symm.trans hc, hco⟩
      obtain ⟨c', hc', hco'⟩ := hold
      have := (I1.blk k c' hc').lt (by intro e; subst e; cases hco')
      have := hfresh b hb
      omega⟩) (hfac _)
    cases e'
    exact ⟨S', ρ', I3, L1.trans (L2.trans L3), one_rep hl3 R3⟩
theorem repTs_fz {W : World} {S : Nat → Prop} : ∀ {es : List FV} {xs : List Value}, es.length = xs.length → (∀ (j : Nat) (e : FV) (x : Value), es[j]? = some e → xs[j]? = some x → Rep W S e x) → RepTs W S (es.map .fz) xs []
  | [], [], _, _ => rfl
  | e :: es, x :: xs, hl, h => ⟨none, [], ⟨rfl, h 0 e x rfl rfl⟩, repTs_fz (by simpa using hl) (fun j e x he hx => h (j + 1) e x (by simpa using he) (by simpa using hx)), rfl⟩
  | [], _ :: _, hl, _ => by cases hl
  | _ :: _, [], hl, _ => by cases hl
theorem mkFn_good {f : Nat} {caps : Array Operand} {qs : List Opnd} (ho : o.op = .makeFunc (.func f) #[] caps) (hq : caps.toList.map opn = qs.map some) (I : HInv W0 S0 M W S ρ st.heap) (E : EInv W S ρ st.heap st.env a)
    (e : stepI R key st (.mkFn f qs) K = some r) : Good P W0 S0 M o a W S ρ st K r := by
  simp only [stepI] at e
  replace e := evs_ok E _ _ hq e; obtain ⟨vs, e, hvl, hvr⟩ := e
  have hrun : (execOp a.eval o).run P W = .ok (.value (.func (.func f) #[] (caps.map a.eval))) W := by
    simp [execOp, ho, Instr.makeFunc]
  refine ⟨_, st, e, rfl, ?_⟩
  unfold OpRes; rw [hrun]
  refine ⟨S, ρ, I, Later.refl _ _ _ _, .clo f vs _ (by simp [hvl]) (fun j v x hv hx => ?_)⟩
  simp only [Array.getElem?_map] at hx
  obtain ⟨y, hy, rfl⟩ := Option.map_eq_some_iff.1 hx
  exact hvr j v y hv (by simpa using hy)
theorem callV_good {x : Operand} {x' : Opnd} {args : Array Operand} {ats : Array TypeId} {qs : List Opnd} (ho : o.op = .call { callee := .value x, args := args, argTypes := ats }) (hx : opn x = some x') (hR : OkB P R W0 S0 M) (hq : args.toList.map opn = qs.map some) (I : HInv W0 S0 M W S ρ st.heap) (E : EInv W S ρ st.heap st.env a)
    (e : stepI R key st (.callV x' qs) K = some r) : Good P W0 S0 M o a W S ρ st K r := by
  simp only [stepI] at e
  replace e := ev_ok E hx e; obtain ⟨v, e, Rv⟩ := e
  split at e
  · rename_i fe
    obtain ⟨hf, e⟩ := when_some e
    cases fe with
    | fn f cs =>
      cases Rv with
      | fz Rf =>
      cases hv : a.eval x with
      | func fn0 first vs0 =>
        rw [hv] at Rf
        cases Rf with
        | fn _ _ _ hcl hch =>
        replace e := evs_ok E _ _ hq e; obtain ⟨vs, e, hvl, hvr⟩ := e
        obtain ⟨es, h1, S1, e, I1, L1, hel, hes⟩ := frzs_ok (fun S h v x K I R e => frz_ok 5 S h v x K I R e) vs S st.heap (args.toList.map a.eval) _ (by simp [hvl]) I (fun j v x hj hx => by
          rw [List.getElem?_map] at hx
          obtain ⟨y, hy, rfl⟩ := Option.map_eq_some_iff.1 hx
          exact hvr j v y hj hy) e
        split at e
        · cases e
        · rename_i ans hans
          rw [answered_eq] at e
          replace e := when_some e; obtain ⟨_, e⟩ := e
          replace e := backs_ok h1 [] ans.2 _ List.nodup_nil e; obtain ⟨stF, e, he1, hout, hlen, hin⟩ := e
          obtain ⟨⟨fn, hfn, hname, hbody⟩, C⟩ := hR.1 f _ ans hans
          have hname' : ¬ fn.name = "runtime.NumGoroutine" := by simpa using hname
          have hbody' : ¬ fn.body = none := fun h => by rw [h] at hbody; cases hbody
          have hrun : (execOp a.eval o).run P W = .ok (.enter f (args.map a.eval ++ vs0)) W := by
            simp [execOp, ho, resolve, hv, Deferred.ofValue, invoke, callFunc, hfn, hname', hbody']
          have hlist : (args.map a.eval ++ vs0).toList = args.toList.map a.eval ++ vs0.toList := by simp
          have hRT : RepTs W S1 ((es ++ cs).map .fz) (args.map a.eval ++ vs0).toList [] := by
            rw [hlist]
            refine repTs_fz (by simp [hel, hvl, hcl]) (fun j e' y he hy => ?_)
            have hll : es.length = (args.toList.map a.eval).length := by simp [hel, hvl]
            rcases Nat.lt_or_ge j es.length with hj | hj
            · rw [List.getElem?_append_left hj] at he
              rw [List.getElem?_append_left (by omega)] at hy
              exact hes j e' y he hy
            · rw [List.getElem?_append_right hj] at he
              rw [List.getElem?_append_right (by omega)] at hy
              exact (hch (j - es.length) e' y he (by rw [hll]; simpa using hy)).mono L1.s L1.w
          have CC := C W S1 (args.map a.eval ++ vs0) [] I1.lt (hR.2.now I1) hRT
          obtain ⟨l, st2, henv2, hfac⟩ := takes_fac _ _ _ _ e
          rw [hfac] at e
          refine ⟨one l, st2, e, henv2.trans he1, ?_⟩
          unfold OpRes; rw [hrun]
          refine CC.mono fun ee W' hpost => ?_
          cases ee with
          | panicked c => exact hpost.elim
          | outgrown => exact hpost.elim
          | returned v =>
          obtain ⟨⟨S', ys, Cs, rfl, hSS, hS', hlt, hRes, hCs, hBk, hnp⟩, hext⟩ := hpost
          have pk : Poke W (fun b => b ∈ ([] : List Nat).map fun k => (ρ k).B) W' := ⟨hext.os, hext.tape, hext.output, hext.size, hext.block⟩
          obtain ⟨I2, L2⟩ := I1.lend (hF := stF.heap) (ks := []) (vs := []) rfl pk hSS (fun b hb => by simpa using hS' b hb) hlt (fun k hk => hout k hk) (fun j k v hj hv => by simp at hj)
          have hfresh : ∀ c ∈ Cs, W.heap.size ≤ c := fun c hc => by
            rcases hCs c hc with h0 | h0
            · exact h0
            · cases h0
          obtain ⟨l', st', ρ', e', he', I3, L3, hl3, R3⟩ := takes_ok (K := fun l s => some (l, s)) (r := (l, st2)) [.fz] ans.1 ys Cs key stF ρ I2 hRes (fun b hb => ⟨.inl (Nat.le_trans I1.ext.size (hfresh b hb)), fun k c hc hco hE => by
            have := (I1.blk k c ((hout k (by simp)).symm.trans hc)).lt (by intro e; subst e; cases hco)
            have := hfresh b hb
            omega⟩) (hfac _)
          cases e'
          exact ⟨S', ρ', I3, L1.trans (L2.trans L3), one_rep hl3 R3⟩
      | _ => rw [hv] at Rf; cases Rf
    | _ => cases hf
  · cases e
theorem slArr_good {t el : TypeId} {x : Operand} {x' : Opnd} {len sz : Nat} (ho : o.op = .slice t x none none none) (ht : P.underlying t = some (.array len el)) (hz : szOf P el = some (sz, true)) (hx : opn x = some x') (I : HInv W0 S0 M W S ρ st.heap) (E : EInv W S ρ st.heap st.env a)
    (e : stepI R key st (.slArr len sz x') K = some r) : Good P W0 S0 M o a W S ρ st K r := by
  simp only [stepI] at e
  replace e := ev_ok E hx e; obtain ⟨v, e, Rv⟩ := e
  obtain ⟨s1, s2, s3⟩ := szOf_run hz W
  split at e
  · rename_i k i off
    cases Rv with
    | ptr _ _ _ _ b hb hv hu h1 =>
    split at e
    · rename_i n agg u hb'
      rw [hb] at hb'; cases hb'
      replace e := when_some e; obtain ⟨hc, e⟩ := e
      simp only [Bool.and_eq_true, beq_iff_eq] at hc
      obtain ⟨_, rfl, rfl, rfl⟩ := hc
      obtain ⟨rfl, hxv⟩ := hu _ _ rfl
      obtain ⟨hnS, hoff, V, _⟩ := I.blk k _ hb
      rw [hoff] at hxv
      obtain ⟨g, c1, c2, RV⟩ := V.cells
      obtain ⟨f, h', S', e, I', L, Rf, hfit⟩ := frz_ok 5 S st.heap u _ _ I RV e
      have hff := hfit _ _ V.fits
      split at e
      · rename_i n' agg' u' hk'
        obtain ⟨_, b', hb', hle⟩ := L.dom k _ hb
        rw [hk'] at hb'; cases hb'
        obtain ⟨rfl, rfl⟩ : n' = len * sz ∧ agg' = true := by
          rcases hle with h0 | ⟨_, _, _, _, h0, _⟩ | ⟨_, _, h0, h1⟩
          · cases h0
          · cases h0
          · cases h0; cases h1; exact ⟨rfl, rfl⟩
        have V' : VarAt W S' ρ h' (ρ k).B (len * sz) true (.fz f) := ⟨V.lt, hff, g, c1, c2, .fz Rf⟩
        obtain ⟨I2, L2⟩ := I'.iceVar k hk' V'
        obtain ⟨cs, rfl, hcl⟩ := isAg_iff (e := f) (n := len * sz) hff
        have hrun : (execOp a.eval o).run P W = .ok (.value (.slice (some ⟨(ρ k).B, 0, none⟩) len len)) W := by
          simp [execOp, ho, Instr.sliceAt, run_underlying ht, hxv, Instr.sureAddr, Instr.sliceBounds, s1]
          first | done | (intro _; simp [Addr.add])
        refine ⟨_, _, e, rfl, ?_⟩
        unfold OpRes; rw [hrun]
        refine ⟨_, ρ, I2, L.trans L2, .fz ?_⟩
        have hlen : (chunks len sz (.ag cs)).length = len := by simp [chunks]
        have R := Rep.sl (W := W) (S := fun b => S' b ∨ b = (ρ k).B) (chunks len sz (.ag cs)) (ρ k).B 0 len sz true g (.inr rfl) (by omega)
          (fun e he => by
            obtain ⟨i, hi, rfl⟩ := List.mem_map.1 he
            have hi := List.mem_range.1 hi
            have : (i + 1) * sz ≤ len * sz := Nat.mul_le_mul_right sz (by omega)
            rw [Nat.succ_mul] at this
            simp [FV.fits, FV.isAg, FV.toAg, hcl]
            omega)
          (fun j hj => c1 j (by rw [hlen] at hj; exact hj)) (fun j hj => c2 j (by rw [hlen] at hj; exact hj))
          (fun i e j x he hx => by
            have hil : i < len := by have := (List.getElem?_eq_some_iff.1 he).1; rwa [hlen] at this
            have hm : (i + 1) * sz ≤ len * sz := Nat.mul_le_mul_right sz (by omega)
            rw [Nat.succ_mul] at hm
            have he' : e = .ag ((cs.drop (i * sz)).take sz) := by
              have : (chunks len sz (.ag cs))[i]? = some (.ag ((cs.drop (i * sz)).take sz)) := by simp [chunks, hil, FV.toAg]
              rw [this] at he; exact (Option.some.inj he).symm
            subst he'
            have hjs : j < sz := by
              have := (List.getElem?_eq_some_iff.1 hx).1
              simp [FV.cells] at this; omega
            have hx' : cs[i * sz + j]? = some x := by
              have : ((cs.drop (i * sz)).take sz)[j]? = some x := hx
              rw [List.getElem?_take, if_pos hjs, List.getElem?_drop] at this
              exact this
            obtain ⟨d1, d2, d3⟩ := rep_cells hff Rf
            exact (d3 (i * sz + j) x _ hx' (by have : i * sz + j < len * sz := by omega
                                               simp [loaded, Value.cells, this])).mono (fun _ h => .inl h) fun _ _ => rfl)
        rw [hlen] at R
        exact R
      · cases e
    · cases e
  · cases e
theorem slTail_good {t el : TypeId} {x y : Operand} {x' y' : Opnd} {len : Nat} (ho : o.op = .slice t x (some y) none none) (ht : P.underlying t = some (.array len el)) (hz : szOf P el = some (1, false)) (hx : opn x = some x') (hy : opn y = some y') (I : HInv W0 S0 M W S ρ st.heap) (E : EInv W S ρ st.heap st.env a)
    (e : stepI R key st (.slTail len x' y') K = some r) : Good P W0 S0 M o a W S ρ st K r := by
  simp only [stepI] at e
  replace e := ev_ok E hx e; obtain ⟨v, e, Rv⟩ := e
  replace e := ev_ok E hy e; obtain ⟨vi, e, Ri⟩ := e
  replace e := getN_ok Ri e; obtain ⟨ki, ni, hxi, e⟩ := e
  replace e := when_some e; obtain ⟨hbd, e⟩ := e
  simp only [Bool.and_eq_true, decide_eq_true_eq] at hbd
  obtain ⟨b0, b1⟩ := hbd
  obtain ⟨s1, s2, s3⟩ := szOf_run hz W
  split at e
  · rename_i k i off
    cases Rv with
    | ptr _ _ _ _ b hb hv hu h1 =>
    split at e
    · rename_i n agg u hb'
      rw [hb] at hb'; cases hb'
      replace e := when_some e; obtain ⟨hc, e⟩ := e
      simp only [Bool.and_eq_true, beq_iff_eq] at hc
      obtain ⟨_, rfl, rfl, rfl⟩ := hc
      obtain ⟨rfl, hxv⟩ := hu _ _ rfl
      obtain ⟨hnS, hoff, V, _⟩ := I.blk k _ hb
      rw [hoff] at hxv
      obtain ⟨g, c1, c2, RV⟩ := V.cells
      obtain ⟨f, h', S', e, I', L, Rf, hfit⟩ := frz_ok 5 S st.heap u _ _ I RV e
      have hff := hfit _ _ V.fits
      split at e
      · rename_i n' agg' u' hk'
        replace e := when_some e; obtain ⟨hpl, e⟩ := e
        obtain ⟨_, b', hb', hle⟩ := L.dom k _ hb
        rw [hk'] at hb'; cases hb'
        obtain ⟨rfl, rfl⟩ : n' = n ∧ agg' = true := by
          rcases hle with h0 | ⟨_, _, _, _, h0, _⟩ | ⟨_, _, h0, h1⟩
          · cases h0
          · cases h0
          · cases h0; cases h1; exact ⟨rfl, rfl⟩
        have V' : VarAt W S' ρ h' (ρ k).B n' true (.fz f) := ⟨V.lt, hff, g, c1, c2, .fz Rf⟩
        obtain ⟨I2, L2⟩ := I'.iceVar k hk' V'
        obtain ⟨cs, rfl, hcl⟩ := isAg_iff (e := f) (n := n') hff
        obtain ⟨m, rfl⟩ : ∃ m : Nat, ni = m := ⟨ni.toNat, by omega⟩
        have hml : m ≤ n' := by omega
        have hbr := bounds_run (P := P) (W := W) (isSl := false) (len := n') (cap := n') (lo := some (a.eval y)) (hi := none) (l := m) (h := n') (by exact rfl) (by exact ⟨ki, hxi⟩) (by omega) (by omega) (by omega) (by omega)
        have hrun : (execOp a.eval o).run P W = .ok (.value (.slice (some (if n' = m then (⟨(ρ k).B, 0, none⟩ : Addr) else (⟨(ρ k).B, 0, none⟩ : Addr).add (m * 1))) (n' - m) (n' - m))) W := by
          rw [hxi] at hbr
          simp only [Int.toNat_natCast] at hbr
          simp [execOp, ho, Instr.sliceAt, run_underlying ht, hxv, Instr.sureAddr, hxi, hbr, s1]
        refine ⟨_, _, e, rfl, ?_⟩
        unfold OpRes; rw [hrun]
        refine ⟨_, ρ, I2, L.trans L2, .fz ?_⟩
        simp only [FV.toAg, Int.toNat_natCast] at hpl ⊢
        by_cases hm : m = n'
        · subst hm
          have hd : cs.drop m = [] := List.drop_eq_nil_of_le (by omega)
          rw [hd, Nat.sub_self]
          exact .sl0 _ _
        · have hlen : (cs.drop m).length = n' - m := by rw [List.length_drop, hcl]
          have R := Rep.sl (W := W) (S := fun b => S' b ∨ b = (ρ k).B) (cs.drop m) (ρ k).B m (n' - m) 1 false (fun j => g (m + j)) (.inr rfl) (by omega)
            (fun e he => List.all_eq_true.1 hpl e (List.mem_of_mem_drop he))
            (fun j hj => by rw [hlen] at hj; have := c1 (m + j) (by omega); rwa [Nat.zero_add] at this) (fun j hj => c2 (m + j) (by rw [hlen] at hj; omega))
            (fun i e j x he hx => by
              have hil : i < n' - m := by have := (List.getElem?_eq_some_iff.1 he).1; rwa [hlen] at this
              have he' : cs[m + i]? = some e := by rw [List.getElem?_drop] at he; exact he
              have hfe := List.all_eq_true.1 hpl e (List.mem_of_getElem? he')
              obtain ⟨_, _, hce⟩ := fits_one hfe
              rw [hce] at hx
              obtain ⟨rfl, rfl⟩ : j = 0 ∧ x = e := by
                cases j with
                | zero => simp at hx; exact ⟨rfl, hx.symm⟩
                | succ j => simp at hx
              obtain ⟨d1, d2, d3⟩ := rep_cells hff Rf
              have := (d3 (m + i) x (g (m + i)) he' (by have : m + i < n' := by omega
                                                        simp [loaded, Value.cells, this])).mono (S' := fun b => S' b ∨ b = (ρ k).B) (W' := W) (fun _ h => .inl h) fun _ _ => rfl
              simpa using this)
          rw [hlen] at R
          rw [if_neg (fun e => hm e.symm)]
          rw [show ((⟨(ρ k).B, 0, none⟩ : Addr).add (m * 1)) = ⟨(ρ k).B, m, none⟩ by by_cases h0 : m = 0 <;> simp [Addr.add, h0]]
          exact R
      · cases e
    · cases e
  · cases e
end
end Go.Ab
end
section
namespace Go.Ab
def eqKFs (P : Program) (eq : TypeId → Option (List EK)) : Nat → List Field → Option (List EK)
  | _, [] => some []
  | off, f :: fs => match eq f.type, f.name != "_" && f.offset == off with
    | some ks, true => (eqKFs P eq (off + ks.length) fs).map fun l => ks ++ l
    | _, _ => none
def repK (ks : List EK) : Nat → List EK
  | 0 => []
  | n + 1 => ks ++ repK ks n
def eqK (P : Program) : Nat → TypeId → Option (List EK)
  | 0, _ => none
  | d + 1, t =>
    let l : Option (List EK) := match P.underlying t with
      | some (.int k) => some [.int k]
      | some .bool => some [.bool]
      | some .string => some [.str]
      | some (.struct fs) => (match P.stoodInHeld t with | true => none | false => eqKFs P (eqK P d) 0 fs.toList)
      | some (.array n e) => (eqK P d e).map fun ks => repK ks n
      | _ => none
    match l, szOf P t with
    | some ks, some (n, _) => match n == ks.length with | true => some ks | false => none
    | _, _ => none
def vOf : FV → Value
  | .int k n => .int k n
  | .bool b => .bool b
  | .str s => .string s
  | _ => .pointer none
def vals (a : List FV) : Array Value := (a.map vOf).toArray
def cv (agg : Bool) (a : List FV) : Value := match agg with | true => .agg (vals a) | false => vOf (a.getD 0 .nilp)
theorem eksOk_length : ∀ {ks : List EK} {a : List FV}, eksOk ks a = true → a.length = ks.length
  | [], [], _ => rfl
  | [], _ :: _, h => by cases h
  | _ :: _, [], h => by cases h
  | k :: ks, x :: a, h => by
    simp only [eksOk, Bool.and_eq_true] at h
    simp [eksOk_length h.2]
theorem ek1 {k : EK} {a : List FV} (h : eksOk [k] a = true) : ∃ x, a = [x] ∧ ekOk k x = true := by
  match a, h with
  | [], h => cases h
  | [x], h => exact ⟨x, rfl, by simpa [eksOk] using h⟩
  | _ :: _ :: _, h => simp [eksOk] at h
theorem ek1_int {k : IntKind} {a : List FV} (h : eksOk [.int k] a = true) : ∃ x, a = [.int k x] := by
  obtain ⟨x, hx, h2⟩ := ek1 h
  subst hx
  cases x with
  | int k' n => simp only [ekOk, FV.isInt, beq_iff_eq] at h2; subst h2; exact ⟨_, rfl⟩
  | _ => simp [ekOk, FV.isInt] at h2
theorem ek1_bool {a : List FV} (h : eksOk [.bool] a = true) : ∃ x, a = [.bool x] := by
  obtain ⟨x, hx, h2⟩ := ek1 h
  subst hx
  cases x with
  | bool b => exact ⟨_, rfl⟩
  | _ => simp [ekOk, FV.isBool] at h2
theorem ek1_str {a : List FV} (h : eksOk [.str] a = true) : ∃ x, a = [.str x] := by
  obtain ⟨x, hx, h2⟩ := ek1 h
  subst hx
  cases x with
  | str b => exact ⟨_, rfl⟩
  | _ => simp [ekOk, FV.isStr] at h2
theorem eksOk_append : ∀ {ks ls : List EK} {a : List FV}, eksOk (ks ++ ls) a = true → ∃ b c, a = b ++ c ∧ eksOk ks b = true ∧ eksOk ls c = true
  | [], ls, a, h => ⟨[], a, rfl, rfl, h⟩
  | k :: ks, ls, [], h => by cases h
  | k :: ks, ls, x :: a, h => by
    simp only [List.cons_append, eksOk, Bool.and_eq_true] at h
    obtain ⟨b, c, rfl, h1, h2⟩ := eksOk_append h.2
    exact ⟨x :: b, c, rfl, by simp [eksOk, h.1, h1], h2⟩
theorem eksEq_append : ∀ {ks ls : List EK} {a b c d : List FV}, eksOk ks a = true → eksOk ks b = true → eksEq (ks ++ ls) (a ++ c) (b ++ d) = (eksEq ks a b && eksEq ls c d)
  | [], ls, [], [], c, d, _, _ => by simp [eksEq]
  | [], ls, _ :: _, _, c, d, h, _ => by cases h
  | [], ls, [], _ :: _, c, d, _, h => by cases h
  | k :: ks, ls, [], _, c, d, h, _ => by cases h
  | k :: ks, ls, _ :: _, [], c, d, _, h => by cases h
  | k :: ks, ls, x :: a, y :: b, c, d, h, h' => by
    simp only [eksOk, Bool.and_eq_true] at h h'
    simp only [List.cons_append, eksEq, eksEq_append h.2 h'.2, Bool.and_assoc]
section
variable {P : Program} {w : World}
theorem part_cv {t : TypeId} {n : Nat} {agg : Bool} (hs : szOf P t = some (n, agg)) {p a q : List FV} {off : Nat} (hp : p.length = off) (ha : a.length = n) :
    (Go.part t (vals (p ++ (a ++ q))) off).run P w = .ok (cv agg a) w := by
  obtain ⟨h1, h2, h3⟩ := szOf_run hs w
  subst hp
  cases agg with
  | true =>
    simp only [Go.part, Sem.run_bind, h2, Result.andThen_ok, if_true, h1, Sem.run_pure, cv, vals]
    congr 2
    apply Array.ext'
    simp [← ha]
  | false =>
    obtain rfl := h3 rfl
    obtain ⟨x, rfl⟩ : ∃ x, a = [x] := by
      match a, ha with
      | [x], _ => exact ⟨x, rfl⟩
    have hg : (vals (p ++ ([x] ++ q)))[p.length]? = some (vOf x) := by simp [vals]
    simp only [Go.part, Sem.run_bind, h2, Result.andThen_ok, Bool.false_eq_true, if_false, hg, Sem.run_pure, cv, List.getD_cons_zero]
def EqCv (P : Program) (d : Nat) (t : TypeId) (ks : List EK) (w : World) : Prop :=
  ∀ n agg, szOf P t = some (n, agg) → n = ks.length ∧ ∀ a b, eksOk ks a = true → eksOk ks b = true → ∀ m, (Op.equalIn (m + d) t (cv agg a) (cv agg b)).run P w = .ok (eksEq ks a b) w
theorem eqK_sz {d : Nat} {t : TypeId} {ks : List EK} (h : eqK P d t = some ks) : ∃ agg, szOf P t = some (ks.length, agg) := by
  cases d with
  | zero => cases h
  | succ d =>
    unfold eqK at h
    simp only at h
    split at h
    · rename_i hsz
      split at h
      · rename_i hn
        cases h
        exact ⟨_, by rw [hsz, beq_iff_eq.1 hn]⟩
      · cases h
    · cases h
theorem eqFs_ok {d : Nat} {eq : TypeId → Option (List EK)} (he : ∀ t ks, eq t = some ks → (∃ agg, szOf P t = some (ks.length, agg)) ∧ EqCv P d t ks w) (m : Nat) : ∀ (fs : List Field) (off : Nat) (ks : List EK) (p q a b : List FV), eqKFs P eq off fs = some ks → p.length = off → q.length = off → eksOk ks a = true → eksOk ks b = true →
    (Op.eqFields (m + d) (vals (p ++ a)) (vals (q ++ b)) fs).run P w = .ok (eksEq ks a b) w
  | [], off, ks, p, q, a, b, h, _, _, _, _ => by
    simp only [eqKFs] at h
    cases h
    simp [Op.eqFields, eksEq]
  | f :: fs, off, ks, p, q, a, b, h, hp, hq, ha, hb => by
    simp only [eqKFs] at h
    split at h
    · rename_i k1 h1 h2
      obtain ⟨k2, h3, rfl⟩ := Option.map_eq_some_iff.1 h
      simp only [Bool.and_eq_true] at h2
      have hn : f.name ≠ "_" := by simpa using h2.1
      have ho : f.offset = off := by simpa using h2.2
      obtain ⟨a1, a2, rfl, ha1, ha2⟩ := eksOk_append ha
      obtain ⟨b1, b2, rfl, hb1, hb2⟩ := eksOk_append hb
      obtain ⟨⟨agg, hs⟩, IH⟩ := he f.type k1 h1
      obtain ⟨_, IH⟩ := IH _ _ hs
      have la := eksOk_length ha1
      have lb := eksOk_length hb1
      rw [Op.eqFields]
      simp only [if_pos hn, Sem.run_bind, ho, part_cv hs hp la, part_cv hs hq lb, Result.andThen_ok, IH a1 b1 ha1 hb1 m]
      have rest := eqFs_ok he m fs (off + k1.length) k2 (p ++ a1) (q ++ b1) a2 b2 h3 (by simp [hp, la]) (by simp [hq, lb]) ha2 hb2
      rw [List.append_assoc, List.append_assoc] at rest
      rw [eksEq_append ha1 hb1]
      cases eksEq k1 a1 b1 with
      | false => simp
      | true => simpa using rest
    · cases h
theorem eqItems_ok {d : Nat} {e : TypeId} {k1 : List EK} {agg : Bool} (hs : szOf P e = some (k1.length, agg)) (hc : P.cellsOf e = k1.length) (IH : EqCv P d e k1 w) (m : Nat) : ∀ (n i : Nat) (p q a b : List FV), p.length = i * k1.length → q.length = i * k1.length → eksOk (repK k1 n) a = true → eksOk (repK k1 n) b = true →
    (Op.eqItems (m + d) e (P.cellsOf e) (vals (p ++ a)) (vals (q ++ b)) (List.range' i n)).run P w = .ok (eksEq (repK k1 n) a b) w
  | 0, i, p, q, a, b, _, _, _, _ => by simp [Op.eqItems, repK, eksEq]
  | n + 1, i, p, q, a, b, hp, hq, ha, hb => by
    simp only [repK] at ha hb ⊢
    obtain ⟨a1, a2, rfl, ha1, ha2⟩ := eksOk_append ha
    obtain ⟨b1, b2, rfl, hb1, hb2⟩ := eksOk_append hb
    have la := eksOk_length ha1
    have lb := eksOk_length hb1
    rw [List.range'_succ, Op.eqItems]
    simp only [hc, Sem.run_bind, part_cv hs hp la, part_cv hs hq lb, Result.andThen_ok, (IH _ _ hs).2 a1 b1 ha1 hb1 m]
    have rest := eqItems_ok hs hc IH m n (i + 1) (p ++ a1) (q ++ b1) a2 b2 (by simp [hp, la, Nat.add_mul]) (by simp [hq, lb, Nat.add_mul]) ha2 hb2
    rw [List.append_assoc, List.append_assoc, hc] at rest
    rw [eksEq_append ha1 hb1]
    cases eksEq k1 a1 b1 with
    | false => simp
    | true => simpa using rest
def aggD : TypeDesc → Bool | .struct _ => true | .array _ _ => true | _ => false
theorem szOf_agg {t : TypeId} {n : Nat} {agg : Bool} {ds : TypeDesc} (hs : szOf P t = some (n, agg)) (hu : P.underlying t = some ds) : agg = aggD ds := by
  unfold szOf at hs
  rw [hu] at hs
  cases hi : P.info? t with
  | none => rw [hi] at hs; cases hs
  | some i =>
    rw [hi] at hs
    cases ds <;> simp only [Option.some.injEq, Prod.mk.injEq] at hs <;> first | exact hs.2.symm | (split at hs <;> simp at hs; exact hs.2)
theorem szOf_cells {t : TypeId} {n : Nat} {agg : Bool} (h : szOf P t = some (n, agg)) : P.cellsOf t = n ∧ ∃ i, P.info? t = some i := by
  unfold szOf at h
  cases hi : P.info? t with
  | none => rw [hi] at h; cases h
  | some i =>
    refine ⟨?_, i, rfl⟩
    rw [hi] at h
    cases hu : P.underlying t with
    | none => rw [hu] at h; cases h
    | some ds =>
      rw [hu] at h
      simp only [Program.cellsOf, hi]
      cases ds <;> simp only [Option.some.injEq, Prod.mk.injEq] at h <;> first | exact h.1 | (split at h <;> simp_all)
theorem eqK_ok : ∀ (d : Nat) (t : TypeId) (ks : List EK), eqK P d t = some ks → EqCv P d t ks w
  | 0, _, _, h => by cases h
  | d + 1, t, ks, h => by
    intro n agg hs
    obtain ⟨agg', hs'⟩ := eqK_sz h
    rw [hs] at hs'; cases hs'
    refine ⟨rfl, fun a b ha hb m => ?_⟩
    unfold eqK at h
    simp only at h
    split at h
    · rename_i ks' n' agg' hl hsz
      split at h
      · cases h
        split at hl
        · rename_i k hu; cases hl
          obtain rfl := szOf_agg hs hu
          obtain ⟨x, rfl⟩ := ek1_int ha
          obtain ⟨y, rfl⟩ := ek1_int hb
          simp [aggD, cv, vOf, eksEq, ekEq, FV.toInt, run_equalIn_int w (m + d) t k k x y hu, ← Nat.add_assoc]
        · rename_i hu; cases hl
          obtain rfl := szOf_agg hs hu
          obtain ⟨x, rfl⟩ := ek1_bool ha
          obtain ⟨y, rfl⟩ := ek1_bool hb
          simp [aggD, cv, vOf, eksEq, ekEq, FV.toBool, run_equalIn_bool' w (m + d) t x y hu, ← Nat.add_assoc]
        · rename_i hu; cases hl
          obtain rfl := szOf_agg hs hu
          obtain ⟨x, rfl⟩ := ek1_str ha
          obtain ⟨y, rfl⟩ := ek1_str hb
          simp [aggD, cv, vOf, eksEq, ekEq, FV.toStr, run_equalIn_string w (m + d) t x y hu, ← Nat.add_assoc]
        · rename_i fs hu
          split at hl
          · cases hl
          · rename_i hst
            obtain rfl := szOf_agg hs hu
            have hf : P.fieldsOf t = fs := by simp [Program.fieldsOf, hu]
            have := eqFs_ok (P := P) (w := w) (d := d) (eq := eqK P d) (fun t' k' h' => ⟨eqK_sz h', eqK_ok d t' k' h'⟩) m fs.toList 0 ks [] [] a b hl rfl rfl ha hb
            simp only [cv, aggD]
            rw [show m + (d + 1) = (m + d) + 1 from rfl, run_equalIn_struct w (m + d) t (vals a) (vals b) (by rw [hf]; exact hu) hst, hf]
            exact this
        · rename_i n0 e hu
          obtain ⟨k1, hk1, rfl⟩ := Option.map_eq_some_iff.1 hl
          obtain rfl := szOf_agg hs hu
          obtain ⟨agge, hse⟩ := eqK_sz hk1
          obtain ⟨hc, i, hi⟩ := szOf_cells hse
          have := eqItems_ok (P := P) (w := w) hse hc (eqK_ok d e k1 hk1) m n0 0 [] [] a b (by simp) (by simp) ha hb
          simp only [cv, aggD]
          rw [show m + (d + 1) = (m + d) + 1 from rfl, run_equalIn_array w (m + d) (vals a) (vals b) hu hi, List.range_eq_range']
          exact this
        · cases hl
      · cases h
    · cases h
end
section
variable {P : Program} {W0 W : World} {S0 M S : Nat → Prop} {ρ : Nat → Place} {st : St} {a : Act} {β : Type} {r : β} {o : Oper} {K : LV → St → Option β} {key : Nat} {R : Nat → List TV → Option Ans}
theorem rep_vals {S : Nat → Prop} : ∀ {ks : List EK} {cs : List FV} {vs : List Value}, eksOk ks cs = true → vs.length = cs.length → (∀ (j : Nat) (e : FV) (v : Value), cs[j]? = some e → vs[j]? = some v → Rep W S e v) → vs = cs.map vOf
  | [], [], [], _, _, _ => rfl
  | [], [], _ :: _, _, h, _ => by simp at h
  | [], _ :: _, _, h, _, _ => by cases h
  | _ :: _, [], _, h, _, _ => by cases h
  | k :: ks, c :: cs, [], _, h, _ => by simp at h
  | k :: ks, c :: cs, v :: vs, h, hl, hr => by
    simp only [eksOk, Bool.and_eq_true] at h
    have h0 := hr 0 c v rfl rfl
    have rest := rep_vals (vs := vs) h.2 (by simpa using hl) fun j e u he hu => hr (j + 1) e u (by simpa using he) (by simpa using hu)
    rw [List.map_cons, ← rest]
    congr 1
    have hk := h.1
    cases k <;> cases c <;> simp [ekOk, FV.isInt, FV.isBool, FV.isStr] at hk <;> cases h0 <;> rfl
theorem eqA_good {op : BinOp} {neg : Bool} (hop : op = (match neg with | true => .neq | false => .eql)) {t yt : TypeId} {x y : Operand} {x' y' : Opnd} {ks : List EK} (ho : o.op = .binOp op t x y yt) (hk : eqK P 100 t = some ks) (hg : P.eqGuardType P.depth t = false) (hagg : (szOf P t).map Prod.snd = some true) (I : HInv W0 S0 M W S ρ st.heap) (E : EInv W S ρ st.heap st.env a) (hx : opn x = some x') (hy : opn y = some y')
    (e : stepI R key st (.eqA neg ks x' y') K = some r) : Good P W0 S0 M o a W S ρ st K r := by
  simp only [stepI] at e
  replace e := ev_ok E hx e; obtain ⟨u, e, Ru⟩ := e
  replace e := ev_ok E hy e; obtain ⟨v, e, Rv⟩ := e
  cases u with
  | fz p =>
    cases v with
    | fz q =>
      simp only at e
      obtain ⟨hi, e⟩ := when_some e
      obtain ⟨hb, e⟩ := when_some e
      simp only [Bool.and_eq_true] at hb hi
      cases p with
      | ag cs =>
        cases q with
        | ag ds =>
          simp only [FV.toAg] at hb e
          cases Ru with
          | fz Ru =>
          cases Rv with
          | fz Rv =>
          cases hxv : a.eval x <;> rw [hxv] at Ru <;> cases Ru
          rename_i vs h11 hl1 hr1
          cases hyv : a.eval y <;> rw [hyv] at Rv <;> cases Rv
          rename_i us h12 hl2 hr2
          have e1 : vs = vals cs := Array.ext' (by simp only [vals]; exact rep_vals (W := W) (S := S) hb.1 (by simpa using hl1) (fun j e v he hv => hr1 j e v he (by simpa using hv)))
          have e2 : us = vals ds := Array.ext' (by simp only [vals]; exact rep_vals (W := W) (S := S) hb.2 (by simpa using hl2) (fun j e v he hv => hr2 j e v he (by simpa using hv)))
          subst e1; subst e2
          obtain ⟨⟨n, agg⟩, hs, hag⟩ := Option.map_eq_some_iff.1 hagg
          simp only at hag
          subst hag
          have hrun := (eqK_ok (P := P) (w := W) 100 t ks hk n true hs).2 cs ds hb.1 hb.2 9900
          simp only [cv] at hrun
          have hgd := run_eqGuard_agg (P := P) W op t x y (vals cs) (vals ds) hg
          refine good_pure I e ?_ (.fz (.bool _))
          cases neg <;> subst hop
          · simp [execOp, ho, hxv, hyv, hgd, run_eql_struct, hrun]
          · simp [execOp, ho, hxv, hyv, hgd, run_neq_struct, hrun]
        | _ => cases hi.2
      | _ => cases hi.1
    | _ => simp at e
  | _ => simp at e
end
end Go.Ab
end
section
namespace Go.Ab
section
variable {P : Program} {W0 W W' : World} {S0 M S : Nat → Prop} {ρ : Nat → Place} {h : Heap} {st : St} {a : Act} {β : Type} {r : β} {o : Oper} {K : LV → St → Option β} {key : Nat} {R : Nat → List TV → Option Ans}
theorem behind_slice {sz : Nat} {agg : Bool} {y : LV} {yv : Value} {K : List FV → Option β} (Ry : RepL W S ρ h y yv) (e : behind sz agg false h y K = some r) : ∃ ad l c, yv = .slice ad l c := by
  unfold behind at e
  simp only at e
  split at e
  · cases Ry; exact ⟨_, _, _, rfl⟩
  · obtain ⟨hb, e⟩ := when_some e
    simp only [Bool.and_eq_true] at hb
    cases Ry with
    | fz Ry => cases Ry <;> simp [FV.isSl] at hb <;> exact ⟨_, _, _, rfl⟩
  · cases Ry with
    | rw _ _ b hb hv _ =>
      unfold rowLen at e
      rw [hb] at e
      cases b with
      | row sz' agg' xs => exact ⟨_, _, _, hv _ _ _ rfl⟩
      | ice sz' agg' xs => exact ⟨_, _, _, hv _ _ _ rfl⟩
      | _ => cases e
  · cases Ry with
    | loc _ _ _ _ b hb hv _ =>
      unfold rowLen at e
      rw [hb] at e
      cases b with
      | row sz' agg' xs => obtain ⟨_, _, h0, _⟩ := hv _ _ _ rfl; exact ⟨_, _, _, h0⟩
      | ice sz' agg' xs => obtain ⟨_, _, h0, _⟩ := hv _ _ _ rfl; exact ⟨_, _, _, h0⟩
      | _ => cases e
  · cases e
theorem foldl_push : ∀ (ns : List Int) (s : ByteArray), ns.foldl (fun r n => r.push (UInt8.ofNat n.toNat)) s = ⟨s.data ++ (ns.map fun n => UInt8.ofNat n.toNat).toArray⟩
  | [], s => by simp
  | n :: ns, s => by
    rw [List.foldl_cons, foldl_push ns]
    show (⟨s.data.push _ ++ _⟩ : ByteArray) = _
    congr 1
    rw [Array.push_eq_append, Array.append_assoc]
    congr 1
    simp
theorem b2s_good {src dst el : TypeId} {x : Operand} {x' : Opnd} (ho : o.op = .convert src dst x) (hs : P.underlying src = some (.slice el)) (he : P.underlying el = some (.int .u8)) (hd : P.underlying dst = some .string) (I : HInv W0 S0 M W S ρ st.heap) (E : EInv W S ρ st.heap st.env a) (hx : opn x = some x')
    (e : stepI R key st (.b2s x') K = some r) : Good P W0 S0 M o a W S ρ st K r := by
  simp only [stepI] at e
  replace e := ev_ok E hx e; obtain ⟨u, e, Ru⟩ := e
  obtain ⟨ad, l, c, hv⟩ := behind_slice Ru e
  obtain ⟨ys, news, e, N, Sc⟩ := behind_ok (P := P) (ty := src) I Ru (show ∃ e', P.underlying src = some (.slice e') from ⟨el, hs⟩) e
  obtain ⟨hb, e⟩ := when_some e
  have hlen : l = ys.length := by
    have := Sc.len W
    rw [hv] at this
    simp [Builtin.lenOf] at this
    exact this
  have hnews : news = (ys.map FV.toInt).map (Value.int .u8) := by
    have hl := N.len
    apply List.ext_getElem
    · simp [hl]
    · intro i h1 h2
      have hi : i < ys.length := by rw [hl] at h1; omega
      have hy : ys[i]? = some ys[i] := List.getElem?_eq_getElem hi
      have hk := List.all_eq_true.1 hb ys[i] (List.getElem_mem hi)
      obtain ⟨n, hn⟩ : ∃ n, ys[i] = .int .u8 n := by
        cases hq : ys[i] <;> rw [hq] at hk <;> simp [FV.isInt] at hk
        subst hk; exact ⟨_, rfl⟩
      have hr := N.rep i ys[i] 0 ys[i] hy (by rw [hn]; rfl)
      rw [hn] at hr
      have hg : news.getD (i * 1 + 0) undef = news[i] := by simp [h1]
      rw [hg] at hr
      cases hq : news[i] <;> rw [hq] at hr <;> cases hr
      simp [hn, FV.toInt]
  refine good_pure I e ?_ (.fz (.str _))
  have hconv : (convert src dst (a.eval x)).run P W = .ok (.string ⟨(ys.map fun e => UInt8.ofNat e.toInt.toNat).toArray⟩) W := by
    rw [hv, run_convert_bytes_string W src dst el ad l c hs he hd]
    cases ad with
    | none =>
      have h0 := Sc.cells
      rw [hv] at h0
      have : news = [] := by
        simp [Builtin.firstCells] at h0
        exact h0
      have hz : ys = [] := by
        have := N.len
        rw [‹news = []›] at this
        simp at this
        exact List.length_eq_zero_iff.1 this.symm
      subst hz
      simp [Conv.bytesToString]
      rfl
    | some ad =>
      have h0 := Sc.cells
      rw [hv] at h0
      have hld : (loadCells ad l).run P W = .ok ((ys.map FV.toInt).map (Value.int .u8)).toArray W := by
        rw [← hnews]
        simpa [Builtin.firstCells, hlen] using h0
      rw [run_bytesToString W ad l c (ys.map FV.toInt) hld, foldl_push]
      simp [ByteArray.empty, ByteArray.emptyWithCapacity, List.map_map]
      rfl
  simp [execOp, ho, hconv]
theorem HInv.newItr (I : HInv W0 S0 M W S ρ h) (hk : aget key h = none) (s : ByteArray) :
    HInv W0 S0 M (W.alloc (.stringIter s 0)) S (upd ρ key ⟨W.heap.size, 0, 0⟩) (aset key (.itr s 0) h) ∧ Later W S ρ h (W.alloc (.stringIter s 0)) S (upd ρ key ⟨W.heap.size, 0, 0⟩) (aset key (.itr s 0) h) ∧
      RepL (W.alloc (.stringIter s 0)) S (upd ρ key ⟨W.heap.size, 0, 0⟩) (aset key (.itr s 0) h) (.ptr key 0 0) (.pointer (some ⟨W.heap.size, 0, none⟩)) := by
  obtain ⟨f1, f2⟩ := I.fresh
  have hh : (W.alloc (.stringIter s 0)).heap = W.heap.push (.stringIter s 0) := rfl
  have pk : Poke W (fun _ => False) (W.alloc (.stringIter s 0)) := ⟨rfl, rfl, rfl, by rw [hh]; simp, fun b hb _ => by rw [hh, Array.getElem?_push, if_neg (by omega)]⟩
  obtain ⟨I1, L1⟩ := I.poke pk (fun _ h => h.elim) (fun _ h => h.elim) (fun _ _ _ _ h => h)
  obtain ⟨I2, L2⟩ := I1.add (key := key) (p := ⟨W.heap.size, 0, 0⟩) (b := .itr s 0) hk rfl (.inl I.ext.size) f2 (fun ρ' h' L =>
    ⟨f1, rfl, by rw [hh]; simp, by rw [hh]; simp⟩)
  refine ⟨I2, L1.trans L2, .ptr key 0 0 _ (.itr s 0) (by rw [aget_aset, if_pos rfl]) (fun _ _ _ h => by cases h) (fun m agg' h => by cases h; simp [upd]) rfl⟩
theorem rngS_good {t : TypeId} {x : Operand} {x' : Opnd} (ho : o.op = .range t x) (ht : P.underlying t = some .string) (I : HInv W0 S0 M W S ρ st.heap) (E : EInv W S ρ st.heap st.env a) (hx : opn x = some x')
    (e : stepI R key st (.rngS x') K = some r) : Good P W0 S0 M o a W S ρ st K r := by
  simp only [stepI] at e
  replace e := ev_ok E hx e; obtain ⟨u, e, Ru⟩ := e
  replace e := getS_ok Ru e; obtain ⟨s, hs, e⟩ := e
  split at e
  · rename_i hk
    obtain ⟨I', L, Rv⟩ := I.newItr hk s
    refine ⟨_, _, e, rfl, ?_⟩
    have hrun : (execOp a.eval o).run P W = .ok (.value (.pointer (some ⟨W.heap.size, 0, none⟩))) (W.alloc (.stringIter s 0)) := by
      simp [execOp, ho, hs, Instr.range, run_underlying ht]
    unfold OpRes; rw [hrun]
    exact ⟨S, _, I', L, Rv⟩
  · cases e
theorem nextS_good {x : Operand} {x' : Opnd} (ho : o.op = .next x true) (I : HInv W0 S0 M W S ρ st.heap) (E : EInv W S ρ st.heap st.env a) (hx : opn x = some x')
    (e : stepI R key st (.nextS x') K = some r) : Good P W0 S0 M o a W S ρ st K r := by
  simp only [stepI] at e
  replace e := ev_ok E hx e; obtain ⟨u, e, Ru⟩ := e
  split at e
  · rename_i k i off
    split at e
    · rename_i s pos hk
      replace e := when_some e; obtain ⟨hg, e⟩ := e
      simp only [Bool.and_eq_true, beq_iff_eq] at hg
      obtain ⟨rfl, rfl⟩ := hg
      obtain ⟨b1, b2, b3, b4⟩ := I.blk k _ hk
      generalize hv : a.eval x = v at Ru
      cases Ru with
      | ptr _ _ _ _ b hb h1 hu h2 =>
        rw [hk] at hb; cases hb
        obtain ⟨_, rfl⟩ := hu 0 true rfl
        rw [b2] at hv
        split at e
        · rename_i hlt
          have hlt : pos < s.size := Nat.le_of_ble_eq_true hlt
          have lt := (Array.getElem?_eq_some_iff.1 b4).1
          have pk : Poke W (fun b => b = (ρ k).B) { W with heap := W.heap.setIfInBounds (ρ k).B (.stringIter s (pos + (Utf8.decode s pos).2)) } :=
            ⟨rfl, rfl, rfl, by simp, fun b hb hx => by simp [Array.getElem?_setIfInBounds_ne (fun e => hx e.symm)]⟩
          obtain ⟨I', L⟩ := I.set (b' := .itr s (pos + (Utf8.decode s pos).2)) hk rfl rfl (.inr (.inr ⟨0, true, rfl, rfl⟩)) pk (fun h' L => ⟨b1, b2, by simp [b3], by simp [b3]⟩)
          refine ⟨_, _, e, rfl, ?_⟩
          have hrun : (execOp a.eval o).run P W = .ok (.value (.tuple #[.bool true, .int .i64 pos, .int .i32 (Utf8.decode s pos).1])) { W with heap := W.heap.setIfInBounds (ρ k).B (.stringIter s (pos + (Utf8.decode s pos).2)) } := by
            simp [execOp, ho, hv, Instr.next, getObj, setObj, Sem.run, b4, hlt, goInt, Result.andThen]
          unfold OpRes; rw [hrun]
          refine ⟨S, _, I', L, .tup _ _ rfl fun j e v he hv => ?_⟩
          match j, he, hv with
          | 0, he, hv => simp at he hv; subst he; subst hv; exact .fz (.bool _)
          | 1, he, hv => simp at he hv; subst he; subst hv; exact .fz (.int _ _)
          | 2, he, hv => simp at he hv; subst he; subst hv; exact .fz (.int _ _)
          | j + 3, he, hv => simp at he
        · rename_i hlt
          have hlt : ¬ pos < s.size := by
            intro h
            rw [show Nat.blt pos s.size = true from Nat.ble_eq_true_of_le h] at hlt
            cases hlt
          refine good_pure (x := .tuple #[.bool false]) I e (by simp [execOp, ho, hv, Instr.next, getObj, Sem.run, b4, hlt, Result.andThen]) (.tup _ _ rfl fun j e v he hv => ?_)
          match j, he, hv with
          | 0, he, hv => simp at he hv; subst he; subst hv; exact .fz (.bool _)
          | j + 1, he, hv => simp at he
    · cases e
  · cases e
theorem s2b_good {src dst el : TypeId} {x : Operand} {x' : Opnd} (ho : o.op = .convert src dst x) (hs : P.underlying src = some .string) (hd : P.underlying dst = some (.slice el)) (he : P.underlying el = some (.int .u8)) (I : HInv W0 S0 M W S ρ st.heap) (E : EInv W S ρ st.heap st.env a) (hx : opn x = some x')
    (e : stepI R key st (.s2b x') K = some r) : Good P W0 S0 M o a W S ρ st K r := by
  simp only [stepI] at e
  replace e := ev_ok E hx e; obtain ⟨u, e, Ru⟩ := e
  replace e := getS_ok Ru e; obtain ⟨s, hxv, e⟩ := e
  split at e
  · rename_i hk
    have hcap := grownCap_ge W s.size 0 el
    have hsz : (Lib.bytesCells W el s).size = grownCap W s.size 0 el := by
      have : s.data.size = s.size := rfl
      simp [Lib.bytesCells]; omega
    have hlen : (s.data.toList.map fun b => FV.int .u8 b.toNat).length = s.size := by
      rw [List.length_map, Array.length_toList]; rfl
    have hget : ∀ j, j < s.size → (Lib.bytesCells W el s).getD j undef = .int .u8 (s.data.toList.getD j 0).toNat := fun j hj => by
      have hj' : j < s.data.size := hj
      have h1 : (Lib.bytesCells W el s)[j]? = some (.int .u8 (s.data.toList.getD j 0).toNat) := by
        simp [Lib.bytesCells, Array.getElem?_append, List.getD, hj, Array.getElem?_eq_getElem hj']
      rw [Array.getD_eq_getD_getElem?, h1]; rfl
    have g : Grown W (Lib.bytesCells W el s) el ((Lib.bytesCells W el s).size, (Lib.bytesCells W el s).size + 1) (Lib.bytesWorld W el s) := by
      refine ⟨by simp [Lib.bytesWorld, World.freeze, World.alloc, World.drew, -World.alloc_eq, -World.drew_eq], by simp [Lib.bytesWorld, World.freeze, World.alloc, World.drew, -World.alloc_eq, -World.drew_eq], by simp [Lib.bytesWorld, World.freeze, World.alloc, World.drew, -World.alloc_eq, -World.drew_eq], ?_⟩
      apply Array.ext_getElem?
      intro j
      rw [Array.getElem?_push]
      by_cases hj : j = W.heap.size
      · rw [if_pos hj, hj]; exact Lib.bytesWorld_at_new W el s
      · rw [if_neg hj]
        rcases Nat.lt_or_ge j W.heap.size with hl | hl
        · exact Lib.bytesWorld_at_old W el s j hl
        · rw [Array.getElem?_eq_none (by rw [Lib.bytesWorld_size]; omega), Array.getElem?_eq_none (by omega)]
    obtain ⟨I2, L2, Rv⟩ := I.newRow (key := key) (xs := s.data.toList.map fun b => FV.int .u8 b.toNat) (cap := grownCap W s.size 0 el) (sz := 1) (agg := false) hk (by rw [hlen]; exact hcap) (fun f hf => by obtain ⟨b, _, rfl⟩ := List.mem_map.1 hf; rfl) (by rw [hsz]; omega)
      (fun j hj => by rw [hlen] at hj; rw [hget j (by omega)]; rfl)
      (fun i f j y hf hj => by
        rw [List.getElem?_map] at hf
        obtain ⟨b, hb, rfl⟩ := Option.map_eq_some_iff.1 hf
        have hi : i < s.size := by have := (List.getElem?_eq_some_iff.1 hb).1; rw [Array.length_toList] at this; exact this
        have hjy : j = 0 ∧ y = .int .u8 b.toNat := by
          cases j with
          | zero => simp only [FV.cells, List.getElem?_cons_zero, Option.some.injEq] at hj; exact ⟨rfl, hj.symm⟩
          | succ j => simp [FV.cells] at hj
        obtain ⟨rfl, rfl⟩ := hjy
        rw [Nat.mul_one, Nat.add_zero, hget i hi, List.getD, hb]
        exact .int _ _) g (fun j hj hc => by rw [hsz] at hc; omega)
    refine ⟨_, _, e, rfl, ?_⟩
    have hrun := Lib.run_convert_string_bytes (P := P) W src dst el s hs hd he
    have : (execOp a.eval o).run P W = .ok (.value (.slice (some ⟨W.heap.size, 0, none⟩) s.size (grownCap W s.size 0 el))) (Lib.bytesWorld W el s) := by
      simp [execOp, ho, hxv, hrun]
    unfold OpRes
    rw [this]
    refine ⟨S, _, I2, L2, ?_⟩
    rw [hlen] at Rv; exact Rv
  · cases e
end
end Go.Ab
end
section
namespace Go.Ab
def opnsL : List Operand → Option (List Opnd)
  | [] => some []
  | x :: r => match opn x, opnsL r with | some y, some l => some (y :: l) | _, _ => none
theorem opnsL_map : ∀ {xs : List Operand} {ys : List Opnd}, opnsL xs = some ys → xs.map opn = ys.map some
  | [], ys, h => by cases h; rfl
  | x :: xs, ys, h => by
    simp only [opnsL] at h
    split at h <;> cases h
    rename_i y l h1 h2
    simp [h1, opnsL_map h2]
def partsC (P : Program) (fs : Array Field) (places : Array (Nat × Nat)) : List (Nat × Operand) → Option (List (Nat × Nat × Bool × Opnd))
  | [] => some []
  | (i, x) :: r => match fs[i]?, places[i]?, opn x, partsC P fs places r with
    | some f, some (off, n), some y, some l => match szOf P f.type with
      | some (n', agg) => match n == n' with | true => some ((off, n, agg, y) :: l) | false => none
      | none => none
    | _, _, _, _ => none
def partsA (sz : Nat) (agg : Bool) : List (Nat × Operand) → Option (List (Nat × Nat × Bool × Opnd))
  | [] => some []
  | (i, x) :: r => match opn x, partsA sz agg r with
    | some y, some l => some ((i * sz, sz, agg, y) :: l)
    | _, _ => none
theorem partsC_ok {P : Program} {fs : Array Field} {places : Array (Nat × Nat)} : ∀ {ps : List (Nat × Operand)} {qs : List (Nat × Nat × Bool × Opnd)}, partsC P fs places ps = some qs → partsOk P (places[·]?) ps qs
  | [], qs, h => by cases h; trivial
  | (i, x) :: ps, qs, h => by
    simp only [partsC] at h
    split at h
    · rename_i f off n y l h1 h2 h3 h4
      split at h
      · rename_i n' agg h5
        split at h
        · rename_i hn
          cases h
          have hn := beq_iff_eq.1 hn
          subst hn
          exact ⟨h2, (szOf_run h5 default).2.2, h3, partsC_ok h4⟩
        · cases h
      · cases h
    · cases h
theorem partsA_ok {P : Program} {sz : Nat} {agg : Bool} (hs : agg = false → sz = 1) : ∀ {ps : List (Nat × Operand)} {qs : List (Nat × Nat × Bool × Opnd)}, partsA sz agg ps = some qs → partsOk P (fun i => some (i * sz, sz)) ps qs
  | [], qs, h => by cases h; trivial
  | (i, x) :: ps, qs, h => by
    simp only [partsA] at h
    split at h <;> cases h
    rename_i y l h1 h2
    exact ⟨rfl, hs, h1, partsA_ok hs h2⟩
def cEqA (P : Program) (op : BinOp) (t : TypeId) (x y : Opnd) : Option AI :=
  match eqK P 100 t, P.eqGuardType P.depth t, (szOf P t).map Prod.snd with
  | some ks, false, some true => (match op with | .eql => some (.eqA false ks x y) | .neq => some (.eqA true ks x y) | _ => none)
  | _, _, _ => none
def cBin (P : Program) (op : BinOp) (t : TypeId) (x y : Operand) (yt : TypeId) : Option AI :=
  match opn x, opn y with
  | some x', some y' => match op with
    | .shl => (match P.underlying t, P.underlying yt with | some (.int k), some (.int yk) => some (.shft .shl k yk x' y') | _, _ => none)
    | .shr => (match P.underlying t, P.underlying yt with | some (.int k), some (.int yk) => some (.shft .shr k yk x' y') | _, _ => none)
    | op => match P.underlying t with
      | some (.int k) => some (.binI op k x' y')
      | some .string => some (.binS op x' y')
      | some .bool => (match op with | .eql => some (.binB false x' y') | .neq => some (.binB true x' y') | _ => none)
      | some (.pointer _) => (match y with
        | .const (.pointer none) => (match op with | .eql => some (.eqNil false x') | .neq => some (.eqNil true x') | _ => none)
        | _ => none)
      | some (.struct _) => cEqA P op t x' y'
      | some (.array _ _) => cEqA P op t x' y'
      | _ => none
  | _, _ => none
def cConv (P : Program) (s d : TypeId) (x : Operand) : Option AI :=
  match opn x with
  | some y => match P.underlying s, P.underlying d with
    | some (.int k), some (.int k') => some (.conv k k' y)
    | some (.int k), some .string => some (.i2s k y)
    | some (.slice e), some .string => (match P.underlying e with | some (.int .u8) => some (.b2s y) | _ => none)
    | some .string, some (.slice e) => (match P.underlying e with | some (.int .u8) => some (.s2b y) | _ => none)
    | _, _ => none
  | none => none
def cSlice (P : Program) (t : TypeId) (x : Operand) (lo hi mx : Option Operand) : Option AI :=
  match opn x, opnO lo, opnO hi, mx with
  | some y, some lo', some hi', none => match P.underlying t with
    | some .string => some (.slice .str y lo' hi' none)
    | some (.slice e) => match szOf P e with | some (sz, agg) => some (.slice (.sl sz agg) y lo' hi' none) | none => none
    | some (.array n el) => match lo, hi with
      | none, none => match szOf P el with | some (sz, true) => some (.slArr n sz y) | _ => none
      | some j, none => match opn j, szOf P el with | some z, some (1, false) => some (.slTail n y z) | _, _ => none
      | _, _ => none
    | _ => none
  | some y, some none, some hi', some m => match P.underlying t, opn m, lo with
    | some (.slice e), some m', none => (match szOf P e with | some (sz, agg) => some (.slice (.sl sz agg) y none hi' (some m')) | none => none)
    | _, _, _ => none
  | _, _, _, _ => none
def cIadr (P : Program) (t : TypeId) (x i : Operand) : Option AI :=
  match opn x, opn i with
  | some y, some j => match P.underlying t with
    | some (.slice e) => match szOf P e with | some (sz, agg) => some (.iadr (.sl sz agg) y j) | none => none
    | some (.array n e) => match szOf P e with | some (sz, agg) => some (.iadr (.arr n sz agg) y j) | none => none
    | _ => none
  | _, _ => none
def cIndex (P : Program) (t : TypeId) (x i : Operand) : Option AI :=
  match opn x, opn i with
  | some y, some j => match P.underlying t with
    | some .string => some (.index .str y j)
    | some (.array n e) => match szOf P e with | some (sz, agg) => some (.index (.arr n sz agg) y j) | none => none
    | _ => none
  | _, _ => none
def cBuild (P : Program) (t : TypeId) (parts : Array (Nat × Operand)) : Option AI :=
  match P.info? t with
  | some i => match i.zero, P.underlying t with
    | some (.agg zv), some (.struct fs) => match csts zv.toList, fs.toList.mapM (fun f => (P.info? f.type).map fun i => (f.offset, i.size)) with
      | some z, some places => (partsC P fs places.toArray parts.toList).map fun qs => .build zv.size z qs
      | _, _ => none
    | some (.agg zv), some (.array _ e) => match csts zv.toList, szOf P e with
      | some z, some (sz, agg) => (partsA sz agg parts.toList).map fun qs => .build zv.size z qs
      | _, _ => none
    | _, _ => none
  | none => none
def cBuildSl (P : Program) (t : TypeId) (len : Nat) (parts : Array (Nat × Operand)) : Option AI :=
  match P.underlying t with
  | some (.slice e) => match szOf P e, P.info? e, opns parts.toList with
    | some (sz, agg), some i, some qs => match i.zero with
      | some z0 => match fcst z0 with
        | some z => match z.fits sz agg && Nat.ble (len * sz) 16777216 with | true => some (.buildSl sz agg len z qs) | false => none
        | none => none
      | none => none
    | _, _, _ => none
  | _ => none
def cMake (P : Program) (t : TypeId) (x y : Operand) : Option AI :=
  match P.underlying t, opn x, opn y with
  | some (.slice e), some x', some y' => match szOf P e, P.info? e with
    | some (sz, agg), some i => match i.zero with
      | some z0 => match fcst z0 with
        | some z => match z.fits sz agg with | true => some (.mkSl sz agg i.bytes z x' y') | false => none
        | none => none
      | none => none
    | _, _ => none
  | _, _, _ => none
def cAppend (P : Program) (t ty : TypeId) (x y : Operand) : Option AI :=
  match P.underlying t, opn x, opn y with
  | some (.slice e), some x', some y' => match szOf P e, P.info? e with
    | some (sz, agg), some i => match i.zero with
      | some z0 => match z0.cells.size == sz with
        | true => match P.underlying ty with
          | some (.slice _) => some (.append sz agg i.bytes false x' y')
          | some .string => match sz == 1 && !agg with | true => some (.append sz agg i.bytes true x' y') | false => none
          | _ => none
        | false => none
      | none => none
    | _, _ => none
  | _, _, _ => none
def cLen (P : Program) (t : TypeId) (x : Operand) : Option AI :=
  match opn x with
  | some y => match P.underlying t with
    | some .string => some (.len .str y)
    | some (.slice e) => match szOf P e with | some (sz, agg) => some (.len (.sl sz agg) y) | none => none
    | some (.array n e) => match szOf P e with | some (sz, agg) => some (.len (.arr n sz agg) y) | none => none
    | _ => none
  | none => none
def compI (P : Program) (modes : Nat → List Mode × List Mode) : Op → Option AI
  | .move x => (opn x).map .mov
  | .assign x => (opn x).map .mov
  | .pick c a b => match opn c, opn a, opn b with | some c, some a, some b => some (.pick c a b) | _, _, _ => none
  | .alloc t => match szOf P t, P.info? t with
    | some (n, agg), some i => match i.zero with
      | some z0 => (cst z0).map fun z => .alloc n agg z
      | none => none
    | _, _ => none
  | .box t x => match szOf P t, opn x with | some (n, agg), some y => some (.box n agg y) | _, _ => none
  | .build t parts => cBuild P t parts
  | .buildSlice t len parts => cBuildSl P t len parts
  | .load t a => match szOf P t, opn a with | some (n, agg), some y => some (.load n agg y) | _, _ => none
  | .store t a v => match szOf P t, opn a, opn v with | some (n, agg), some y, some z => some (.store n agg y z) | _, _, _ => none
  | .nilCheck x => (opn x).map .nilck
  | .binOp op t x y yt => cBin P op t x y yt
  | .unOp .not _ x => (opn x).map .notB
  | .unOp .neg t x => match P.underlying t, opn x with | some (.int k), some y => some (.negI k y) | _, _ => none
  | .convert s d x => cConv P s d x
  | .makeSlice t x y => cMake P t x y
  | .slice t x lo hi mx => cSlice P t x lo hi mx
  | .fieldAddr t x f => match P.underlying t, opn x with
    | some (.struct fs), some y => match fs[f]? with
      | some fd => match szOf P fd.type with
        | some (n, _) => match n with | 0 => none | _ + 1 => some (.fadr fd.offset y)
        | none => none
      | none => none
    | _, _ => none
  | .field t x f => match P.underlying t, opn x, P.info? t with
    | some (.struct fs), some y, some i => match fs[f]? with
      | some fd => match szOf P fd.type with
        | some (n, agg) => some (.field i.size n agg fd.offset y)
        | none => none
      | none => none
    | _, _, _ => none
  | .indexAddr t x i => cIadr P t x i
  | .index t x i => cIndex P t x i
  | .extract x i => (opn x).map fun y => .extract y i
  | .range t x => match P.underlying t, opn x with | some .string, some y => some (.rngS y) | _, _ => none
  | .next x s => match s with | true => (opn x).map .nextS | false => none
  | .call { callee := .value (.func f), args, argTypes := _ } => match opnsL args.toList with
    | some ys => match ys.length == (modes f).1.length with | true => some (.call f (ys.zip (modes f).1) (modes f).2) | false => none
    | none => none
  | .makeFunc (.func f) first caps => match first.isEmpty, opnsL caps.toList with
    | true, some ys => some (.mkFn f ys)
    | _, _ => none
  | .call { callee := .value (.tmp t), args, argTypes := _ } => match opn (.tmp t), opnsL args.toList with
    | some y, some ys => some (.callV y ys)
    | _, _ => none
  | .call { callee := .builtin .len, args, argTypes } => match args.toList, argTypes.toList with
    | [x], [t] => cLen P t x
    | _, _ => none
  | .call { callee := .builtin .append, args, argTypes } => match args.toList, argTypes.toList with
    | [x, y], [t, ty] => cAppend P t ty x y
    | _, _ => none
  | _ => none
section
variable {P : Program} {W0 W W' : World} {S0 M S S' : Nat → Prop} {ρ ρ' : Nat → Place} {h h' : Heap} {st : St} {a : Act} {β : Type} {r : β} {o : Oper} {K : LV → St → Option β} {key : Nat} {R : Nat → List TV → Option Ans} {modes : Nat → List Mode × List Mode}
theorem arr1 {α : Type} {xs : Array α} {x : α} (h : xs.toList = [x]) : xs = #[x] := Array.ext' (by simpa using h)
theorem arr2 {α : Type} {xs : Array α} {x y : α} (h : xs.toList = [x, y]) : xs = #[x, y] := Array.ext' (by simpa using h)
theorem cEqA_good {op : BinOp} {t yt : TypeId} {x y : Operand} {x' y' : Opnd} {i : AI} (ho : o.op = .binOp op t x y yt) (hx : opn x = some x') (hy : opn y = some y') (hc : cEqA P op t x' y' = some i) (I : HInv W0 S0 M W S ρ st.heap) (E : EInv W S ρ st.heap st.env a)
    (e : stepI R key st i K = some r) : Good P W0 S0 M o a W S ρ st K r := by
  unfold cEqA at hc
  split at hc
  · rename_i h1 h2 h3
    split at hc <;> cases hc
    · exact eqA_good (neg := false) rfl ho h1 h2 h3 I E hx hy e
    · exact eqA_good (neg := true) rfl ho h1 h2 h3 I E hx hy e
  · cases hc
theorem comp_good {i : AI} (hc : compI P modes o.op = some i) (hR : OkB P R W0 S0 M) (I : HInv W0 S0 M W S ρ st.heap) (E : EInv W S ρ st.heap st.env a) (e : stepI R key st i K = some r) : Good P W0 S0 M o a W S ρ st K r := by
  unfold compI at hc
  split at hc
  · rename_i x ho
    obtain ⟨y, hy, rfl⟩ := Option.map_eq_some_iff.1 hc
    exact mov_good (.inl ho) I E hy e
  · rename_i x ho
    obtain ⟨y, hy, rfl⟩ := Option.map_eq_some_iff.1 hc
    exact mov_good (.inr ho) I E hy e
  · rename_i ho
    split at hc <;> cases hc
    rename_i h1 h2 h3
    exact pick_good ho I E h1 h2 h3 e
  · rename_i ho
    split at hc
    · rename_i h1 h2
      split at hc
      · rename_i h3
        obtain ⟨z, hz, rfl⟩ := Option.map_eq_some_iff.1 hc
        exact alloc_good ho h2 h3 hz I e
      · cases hc
    · cases hc
  · rename_i ho
    split at hc <;> cases hc
    rename_i h1 h2
    exact box_good ho I E h2 e
  · rename_i t parts ho
    unfold cBuild at hc
    split at hc
    · rename_i i hi
      split at hc
      · rename_i zv fs hz hu
        split at hc
        · rename_i z places h1 h2
          obtain ⟨qs, hq, rfl⟩ := Option.map_eq_some_iff.1 hc
          exact build_good (place := fun i => places.toArray[i]?) ho h1 rfl (fun ps => by simp only [Program.built, hi, hu, hz, h2, Value.cells]) (partsC_ok hq) I E e
        · cases hc
      · rename_i zv n el hz hu
        split at hc
        · rename_i z sz agg h1 h2
          obtain ⟨qs, hq, rfl⟩ := Option.map_eq_some_iff.1 hc
          have hie : ∃ ie, P.info? el = some ie ∧ ie.size = sz := by
            have := (szOf_run h2 default).1
            cases hel : P.info? el with
            | none => simp [szOf, hel] at h2
            | some ie => exact ⟨ie, rfl, by simp [sizeOf, typeInfo, hel] at this; exact this⟩
          obtain ⟨ie, hie, hsz⟩ := hie
          exact build_good (place := fun i => some (i * sz, sz)) ho h1 rfl (fun ps => by simp only [Program.built, hi, hu, hz, hie, hsz, Value.cells]) (partsA_ok (szOf_run h2 default).2.2 hq) I E e
        · cases hc
      · cases hc
    · cases hc
  · rename_i ho
    unfold cBuildSl at hc
    split at hc
    · rename_i hu
      split at hc
      · rename_i h1 h2 h3
        split at hc
        · rename_i h4
          split at hc
          · rename_i h5
            split at hc
            · rename_i h6
              cases hc
              simp only [Bool.and_eq_true] at h6
              exact buildSl_good ho hu h1 h2 h4 h5 h6.1 (Nat.le_of_ble_eq_true h6.2) h3 I E e
            · cases hc
          · cases hc
        · cases hc
      · cases hc
    · cases hc
  · rename_i ho
    split at hc <;> cases hc
    rename_i h1 h2
    exact load_good ho I E h1 h2 e
  · rename_i ho
    split at hc <;> cases hc
    rename_i h1 h2 h3
    exact store_good ho I E h1 h2 h3 e
  · rename_i ho
    obtain ⟨y, hy, rfl⟩ := Option.map_eq_some_iff.1 hc
    exact nilck_good ho I E hy e
  · rename_i op t x y yt ho
    unfold cBin at hc
    split at hc
    · rename_i x' y' h1 h2
      split at hc
      · split at hc <;> cases hc
        exact shft_good ho I E h1 h2 e
      · split at hc <;> cases hc
        exact shft_good ho I E h1 h2 e
      · split at hc
        · cases hc; exact binI_good ho I E h1 h2 e
        · cases hc; exact binS_good ho I E h1 h2 e
        · rename_i hu
          split at hc <;> cases hc
          · exact binB_good (neg := false) rfl ho hu I E h1 h2 e
          · exact binB_good (neg := true) rfl ho hu I E h1 h2 e
        · rename_i hu
          split at hc
          · split at hc <;> cases hc
            · exact eqNil_good (neg := false) rfl ho hu I E h1 e
            · exact eqNil_good (neg := true) rfl ho hu I E h1 e
          · cases hc
        · exact cEqA_good ho h1 h2 hc I E e
        · exact cEqA_good ho h1 h2 hc I E e
        · cases hc
    · cases hc
  · rename_i ho
    obtain ⟨y, hy, rfl⟩ := Option.map_eq_some_iff.1 hc
    exact notB_good ho I E hy e
  · rename_i ho
    split at hc <;> cases hc
    rename_i h1 h2
    exact negI_good ho I E h2 e
  · rename_i ho
    unfold cConv at hc
    split at hc
    · rename_i h1
      split at hc
      · rename_i h2 h3; cases hc; exact conv_good ho h2 h3 I E h1 e
      · rename_i h2 h3; cases hc; exact i2s_good ho h2 h3 I E h1 e
      · rename_i el h2 h3
        split at hc <;> cases hc
        rename_i h4
        exact b2s_good ho h2 h4 h3 I E h1 e
      · rename_i el h2 h3
        split at hc <;> cases hc
        rename_i h4
        exact s2b_good ho h2 h3 h4 I E h1 e
      · cases hc
    · cases hc
  · rename_i ho
    unfold cMake at hc
    split at hc
    · rename_i hu h1 h2
      split at hc
      · rename_i h3 h4
        split at hc
        · rename_i h5
          split at hc
          · rename_i h6
            split at hc
            · rename_i h7; cases hc
              exact mkSl_good ho hu h3 h4 h5 h6 h7 I E h1 h2 e
            · cases hc
          · cases hc
        · cases hc
      · cases hc
    · cases hc
  · rename_i ho
    unfold cSlice at hc
    split at hc
    · rename_i h1 h2 h3
      split at hc
      · rename_i hu; cases hc
        exact sliceStr_good ho hu I E h1 h2 h3 e
      · rename_i hu
        split at hc
        · rename_i h4; cases hc
          exact sliceSl_good ho hu h4 I E h1 h2 h3 e
        · cases hc
      · rename_i hu
        split at hc
        · split at hc
          · rename_i h4; cases hc
            exact slArr_good ho hu h4 h1 I E e
          · cases hc
        · split at hc
          · rename_i h5 h4; cases hc
            exact slTail_good ho hu h4 h1 h5 I E e
          · cases hc
        · cases hc
      · cases hc
    · rename_i h1 h2 h3
      split at hc
      · rename_i hu hm
        split at hc
        · rename_i h4; cases hc
          exact sliceMx_good ho hu h4 I E h1 h3 hm e
        · cases hc
      · cases hc
    · cases hc
  · rename_i ho
    split at hc
    · rename_i hu h1
      split at hc
      · rename_i h2
        split at hc
        · rename_i h3
          split at hc
          · cases hc
          · cases hc
            exact fadr_good ho hu h2 h3 (by omega) I E h1 e
        · cases hc
      · cases hc
    · cases hc
  · rename_i ho
    split at hc
    · rename_i hu h1 hi
      split at hc
      · rename_i h2
        split at hc
        · rename_i h3; cases hc
          exact field_good ho hu h2 h3 I E h1 e
        · cases hc
      · cases hc
    · cases hc
  · rename_i ho
    unfold cIadr at hc
    split at hc
    · rename_i h1 h2
      split at hc
      · rename_i hu
        split at hc <;> cases hc
        rename_i h3
        exact iadrS_good ho hu h3 I E h1 h2 e
      · rename_i hu
        split at hc <;> cases hc
        rename_i h3
        exact iadrA_good ho hu h3 I E h1 h2 e
      · cases hc
    · cases hc
  · rename_i ho
    unfold cIndex at hc
    split at hc
    · rename_i h1 h2
      split at hc
      · rename_i hu; cases hc
        exact indexS_good ho hu I E h1 h2 e
      · rename_i hu
        split at hc <;> cases hc
        rename_i h3
        exact indexA_good ho hu h3 I E h1 h2 e
      · cases hc
    · cases hc
  · rename_i ho
    obtain ⟨y, hy, rfl⟩ := Option.map_eq_some_iff.1 hc
    exact extract_good ho I E hy e
  · rename_i ho
    split at hc <;> cases hc
    rename_i h1 h2
    exact rngS_good ho h1 I E h2 e
  · rename_i ho
    split at hc
    · obtain ⟨y, hy, rfl⟩ := Option.map_eq_some_iff.1 hc
      exact nextS_good ho I E hy e
    · cases hc
  · rename_i f args ats ho
    split at hc
    · rename_i ys hys
      split at hc
      · rename_i hl; cases hc
        have hl := beq_iff_eq.1 hl
        exact call_good ho hR (by rw [opnsL_map hys]; congr 1; rw [List.map_fst_zip (by omega)]) I E e
      · cases hc
    · cases hc
  · rename_i f first caps ho
    split at hc
    · rename_i ys h1 h2
      cases hc
      have h1 : first = #[] := by simpa using h1
      subst h1
      exact mkFn_good ho (opnsL_map h2) I E e
    · cases hc
  · rename_i t args ats ho
    split at hc
    · rename_i y ys h1 h2
      cases hc
      exact callV_good ho h1 hR (opnsL_map h2) I E e
    · cases hc
  · rename_i args ats ho
    split at hc
    · rename_i x t h1 h2
      rw [arr1 h1, arr1 h2] at ho
      unfold cLen at hc
      split at hc
      · rename_i h3
        split at hc
        · rename_i hu; cases hc
          exact len_good (k := .str) ho hu I E h3 e
        · rename_i el hu
          split at hc <;> cases hc
          exact len_good (k := .sl _ _) ho ⟨el, hu⟩ I E h3 e
        · rename_i n el hu
          split at hc <;> cases hc
          exact len_good (k := .arr _ _ _) ho ⟨el, hu⟩ I E h3 e
        · cases hc
      · cases hc
    · cases hc
  · rename_i args ats ho
    split at hc
    · rename_i x y t ty h1 h2
      rw [arr2 h1, arr2 h2] at ho
      unfold cAppend at hc
      split at hc
      · rename_i el hu h3 h4
        split at hc
        · rename_i h5 h6
          split at hc
          · rename_i h7
            split at hc
            · rename_i h8
              have h8 := beq_iff_eq.1 h8
              split at hc
              · rename_i e' h9; cases hc
                exact append_good (str := false) ho hu h5 h6 h7 h8 ⟨e', h9⟩ I E h3 h4 e
              · rename_i h9
                split at hc
                · rename_i h10; cases hc
                  simp only [Bool.and_eq_true, beq_iff_eq, Bool.not_eq_true'] at h10
                  exact append_good (str := true) ho hu h5 h6 h7 h8 ⟨h9, h10.1, h10.2⟩ I E h3 h4 e
                · cases hc
              · cases hc
            · cases hc
          · cases hc
        · cases hc
      · cases hc
    · cases hc
  · cases hc
end
end Go.Ab
end
section
namespace Go.Ab
section
variable {P : Program} {W0 W W' : World} {S0 M S S' : Nat → Prop} {ρ ρ' : Nat → Place} {h h' : Heap} {st : St} {a : Act}
theorem hPick_get {f : Nat → Nat} : ∀ {l : List Nat} {j : Nat} {b : Blk}, aget j (hPick h f l) = some b → ∃ k ∈ l, f k = j ∧ ∃ c, aget k h = some c ∧ b = renB f c
  | [], j, b, e => by cases e
  | k :: l, j, b, e => by
    simp only [hPick] at e
    split at e
    · rename_i c hc
      simp only [aget] at e
      by_cases hk : f k = j
      · rw [show (f k == j) = true by simpa using hk] at e
        cases e
        exact ⟨k, List.mem_cons_self, hk, c, hc, rfl⟩
      · rw [show (f k == j) = false by simpa using hk] at e
        obtain ⟨k', h1, h2⟩ := hPick_get e
        exact ⟨k', List.mem_cons_of_mem _ h1, h2⟩
    · obtain ⟨k', h1, h2⟩ := hPick_get e
      exact ⟨k', List.mem_cons_of_mem _ h1, h2⟩
theorem hPick_some {f : Nat → Nat} : ∀ {l : List Nat} {k : Nat} {c : Blk}, k ∈ l → aget k h = some c → ∃ b, aget (f k) (hPick h f l) = some b
  | k' :: l, k, c, hm, hc => by
    simp only [hPick]
    rcases List.mem_cons.1 hm with rfl | hm
    · rw [hc]; simp [aget]
    · obtain ⟨b, hb⟩ := hPick_some (f := f) hm hc
      split
      · simp only [aget]
        by_cases hk : f k' = f k
        · exact ⟨_, by rw [show (f k' == f k) = true by simpa using hk]; rfl⟩
        · exact ⟨b, by rw [show (f k' == f k) = false by simpa using hk]; exact hb⟩
      · exact ⟨b, hb⟩
theorem aget_append {α : Type} {j : Nat} : ∀ {l1 l2 : List (Nat × α)}, aget j (l1 ++ l2) = match aget j l1 with | some b => some b | none => aget j l2
  | [], l2 => rfl
  | (i, v) :: l1, l2 => by
    simp only [List.cons_append, aget]
    by_cases h : i = j
    · simp [h]
    · simp only [show (i == j) = false by simpa using h, cond_false]
      exact aget_append
theorem aget_map {j : Nat} {g : LV → LV} : ∀ {l : List (Nat × LV)}, aget j (l.map fun p => (p.1, g p.2)) = (aget j l).map g
  | [] => rfl
  | (i, v) :: l => by
    simp only [List.map_cons, aget]
    by_cases h : i = j
    · simp [h]
    · simp only [show (i == j) = false by simpa using h, cond_false]
      exact aget_map
theorem aget_live {j : Nat} {v : LV} {live : List Nat} : ∀ {l : List (Nat × LV)}, aget j (liveEnv live l) = some v → aget j l = some v
  | [], e => by cases e
  | (i, u) :: l, e => by
    simp only [liveEnv, List.filter_cons] at e
    by_cases hl : live.elem i = true
    · rw [if_pos hl] at e
      simp only [aget] at e ⊢
      by_cases h : i = j
      · simp only [show (i == j) = true by simpa using h, cond_true] at e ⊢; exact e
      · simp only [show (i == j) = false by simpa using h, cond_false] at e ⊢; exact aget_live e
    · rw [if_neg hl] at e
      simp only [aget]
      by_cases h : i = j
      · subst h
        have : ∀ (l : List (Nat × LV)), aget i (l.filter fun p => live.elem p.1) = none := by
          intro l
          induction l with
          | nil => rfl
          | cons p l ih =>
            simp only [List.filter_cons]
            split
            · rename_i hp
              obtain ⟨q, w⟩ := p
              simp only [aget]
              by_cases hq : q = i
              · subst hq; exact absurd hp hl
              · simp only [show (q == i) = false by simpa using hq, cond_false]; exact ih
            · exact ih
        rw [this] at e; cases e
      · simp only [show (i == j) = false by simpa using h, cond_false]; exact aget_live e
theorem renVs_get (f : Nat → Nat) : ∀ (l : List LV) (j : Nat), (renVs f l)[j]? = (l[j]?).map (renV f)
  | [], j => by simp [renVs]
  | v :: l, j => by
    cases j with
    | zero => simp [renVs]
    | succ j => simp [renVs, renVs_get f l j]
theorem renVs_length (f : Nat → Nat) : ∀ (l : List LV), (renVs f l).length = l.length
  | [] => rfl
  | v :: l => by simp [renVs, renVs_length f l]
theorem renB_row (f : Nat → Nat) (b : Blk) : (renB f b).rowOf = b.rowOf := by cases b <;> rfl
theorem renB_var (f : Nat → Nat) (b : Blk) : (renB f b).varOf = b.varOf := by cases b <;> rfl
theorem renB_owned (f : Nat → Nat) (b : Blk) : (renB f b).owned = b.owned := by cases b <;> rfl
theorem renV_fits (f : Nat → Nat) (n : Nat) (agg : Bool) (v : LV) : lfits n agg (renV f v) = lfits n agg v := by
  cases v <;> simp [renV, lfits, renVs_length]
theorem renV_rep {f : Nat → Nat} (hk : ∀ k b, aget k h = some b → (∃ c, aget (f k) h' = some c ∧ (c = .dead ∨ (c = renB f b ∧ ρ' (f k) = ρ k)))) {v : LV} {x : Value} (R : RepL W S ρ h v x) : RepL W S ρ' h' (renV f v) x := by
  induction R with
  | fz r => exact .fz r
  | nils a => exact .nils a
  | rw key v b hb hv h1 =>
    obtain ⟨c, hc, hcase⟩ := hk key b hb
    refine .rw (f key) v c hc (fun sz agg xs hx => ?_) h1
    rcases hcase with rfl | ⟨rfl, hρ⟩
    · cases hx
    · rw [renB_row] at hx; rw [hρ]; exact hv _ _ _ hx
  | loc key off len v b hb hv h1 _ =>
    obtain ⟨c, hc, hcase⟩ := hk key b hb
    refine .loc (f key) off len v c hc (fun sz agg xs hx => ?_) h1 (fun _ => trivial)
    rcases hcase with rfl | ⟨rfl, hρ⟩
    · cases hx
    · rw [renB_row] at hx; rw [hρ]; exact hv _ _ _ hx
  | ptr key i off v b hb hv hu h1 =>
    obtain ⟨c, hc, hcase⟩ := hk key b hb
    refine .ptr (f key) i off v c hc (fun sz agg xs hx => ?_) (fun n agg hx => ?_) h1
    · rcases hcase with rfl | ⟨rfl, hρ⟩
      · cases hx
      · rw [renB_row] at hx; rw [hρ]; exact hv _ _ _ hx
    · rcases hcase with rfl | ⟨rfl, hρ⟩
      · cases hx
      · rw [renB_var] at hx; rw [hρ]; exact hu _ _ hx
  | ag cs vs hl h1 _ ih =>
    refine .ag _ vs (by rw [renVs_length]; exact hl) h1 (fun j e v he hv => ?_)
    rw [renVs_get] at he
    obtain ⟨e', he', rfl⟩ := Option.map_eq_some_iff.1 he
    exact ih j e' v he' hv
  | tup cs vs hl _ ih =>
    refine .tup _ vs (by rw [renVs_length]; exact hl) (fun j e v he hv => ?_)
    rw [renVs_get] at he
    obtain ⟨e', he', rfl⟩ := Option.map_eq_some_iff.1 he
    exact ih j e' v he' hv
  | clo g cs vs hl _ ih =>
    refine .clo g _ vs (by rw [renVs_length]; exact hl) (fun j e v he hv => ?_)
    rw [renVs_get] at he
    obtain ⟨e', he', rfl⟩ := Option.map_eq_some_iff.1 he
    exact ih j e' v he' hv
theorem getD_idxOf : ∀ {l : List Nat} {k : Nat}, k ∈ l → l.getD (l.idxOf k) 0 = k
  | i :: l, k, hk => by
    by_cases h : i = k
    · subst h; simp
    · have hm : k ∈ l := (List.mem_cons.1 hk).resolve_left (fun e => h e.symm)
      rw [List.idxOf_cons, show (i == k) = false by simpa using h]
      simpa using getD_idxOf hm
theorem canon_ok {pin live : List Nat} (hpin : ∀ k ∈ pin, k < 4095) (I : HInv W0 S0 M W S ρ st.heap) (E : EInv W S ρ st.heap st.env a) :
    ∃ ρ', HInv W0 S0 M W S ρ' (canon pin live st).heap ∧ EInv W S ρ' (canon pin live st).heap (canon pin live st).env a ∧ (∀ k ∈ pin, ρ' k = ρ k ∧ ∀ c, aget k st.heap = some c → ∃ c', aget k (canon pin live st).heap = some c' ∧ c'.varOf = c.varOf ∧ (c = .dead → c' = .dead)) := by
  let keys := (dedup [] ((liveEnv live st.env).flatMap fun p => keysOf st.heap 6 p.2)).filter fun k => !(pin.elem k)
  let f := renK pin keys
  let inv : Nat → Nat := fun j => bif pin.elem j then j else keys.getD (j - 4096) 0
  let ρ' : Nat → Place := fun j => ρ (inv j)
  have hheap : (canon pin live st).heap = hPick st.heap f pin ++ ((4095, .dead) :: hPick st.heap f keys) := rfl
  have henv : (canon pin live st).env = (liveEnv live st.env).map fun p => (p.1, renV f p.2) := rfl
  have memf : ∀ k, pin.elem k = true ↔ k ∈ pin := fun k => by simp
  have fpin : ∀ k ∈ pin, f k = k := fun k hk => by simp only [f, renK]; rw [(memf k).2 hk]; rfl
  have npin : ∀ k ∈ keys, k ∉ pin := fun k hk => by
    have := (List.mem_filter.1 hk).2
    simpa using this
  have fkey : ∀ k ∈ keys, f k = 4096 + keys.idxOf k := fun k hk => by
    have h1 : pin.elem k = false := by simpa using npin k hk
    have h2 : keys.elem k = true := by simpa using hk
    simp only [f, renK, h1, h2, cond_true, cond_false]
  have fout : ∀ k, k ∉ pin → k ∉ keys → f k = 4095 := fun k h1 h2 => by
    have h1 : pin.elem k = false := by simpa using h1
    have h2 : keys.elem k = false := by simpa using h2
    simp only [f, renK, h1, h2, cond_false]
  have invf : ∀ k, k ∈ pin ∨ k ∈ keys → inv (f k) = k := fun k hk => by
    rcases hk with hk | hk
    · simp only [inv]; rw [fpin k hk, (memf k).2 hk]; rfl
    · have h1 : pin.elem (f k) = false := by
        rw [fkey k hk]
        cases hb : pin.elem (4096 + keys.idxOf k) with
        | false => rfl
        | true => have := hpin _ ((memf _).1 hb); omega
      simp only [inv, h1, cond_false]
      rw [fkey k hk, show 4096 + keys.idxOf k - 4096 = keys.idxOf k by omega]
      exact getD_idxOf hk
  -- what stands in the new heap
  have hget : ∀ j b, aget j (canon pin live st).heap = some b → b = .dead ∨ ∃ k, (k ∈ pin ∨ k ∈ keys) ∧ f k = j ∧ ∃ c, aget k st.heap = some c ∧ b = renB f c := fun j b e => by
    rw [hheap, aget_append] at e
    split at e
    · rename_i b' hb'
      cases e
      obtain ⟨k, h1, h2⟩ := hPick_get hb'
      exact .inr ⟨k, .inl h1, h2⟩
    · simp only [aget] at e
      by_cases hj : 4095 = j
      · rw [show ((4095 : Nat) == j) = true by simpa using hj] at e
        cases e; exact .inl rfl
      · rw [show ((4095 : Nat) == j) = false by simpa using hj] at e
        obtain ⟨k, h1, h2⟩ := hPick_get e
        exact .inr ⟨k, .inr h1, h2⟩
  have finj : ∀ k k', (k ∈ pin ∨ k ∈ keys) → (k' ∈ pin ∨ k' ∈ keys) → f k = f k' → k = k' := fun k k' h1 h2 e => by
    rw [← invf k h1, e, invf k' h2]
  have hsome : ∀ k c, (k ∈ pin ∨ k ∈ keys) → aget k st.heap = some c → aget (f k) (canon pin live st).heap = some (renB f c) := fun k c hk hc => by
    have : ∃ b, aget (f k) (canon pin live st).heap = some b ∧ (b = .dead → c = .dead ∨ True) := by
      rw [hheap, aget_append]
      rcases hk with hk | hk
      · obtain ⟨b, hb⟩ := hPick_some (f := f) hk hc
        rw [hb]; exact ⟨b, rfl, fun _ => .inr trivial⟩
      · obtain ⟨b, hb⟩ := hPick_some (f := f) hk hc
        split
        · exact ⟨_, rfl, fun _ => .inr trivial⟩
        · refine ⟨b, ?_, fun _ => .inr trivial⟩
          simp only [aget]
          rw [show ((4095 : Nat) == f k) = false by rw [fkey k hk]; simp; omega]
          exact hb
    obtain ⟨b, hb, _⟩ := this
    -- the entry is that of k
    rw [hheap, aget_append] at hb
    rw [hheap, aget_append]
    split at hb
    · rename_i b' hb'
      obtain ⟨k', h1, h2, c', h3, rfl⟩ := hPick_get hb'
      obtain rfl := finj k' k (.inl h1) hk h2
      rw [hc] at h3; cases h3; rfl
    · rename_i hnone
      have hkk : k ∈ keys := by
        rcases hk with hk | hk
        · obtain ⟨b', hb'⟩ := hPick_some (f := f) hk hc
          rw [hb'] at hnone; cases hnone
        · exact hk
      simp only [aget] at hb ⊢
      rw [show ((4095 : Nat) == f k) = false by rw [fkey k hkk]; simp; omega] at hb ⊢
      simp only [cond_false] at hb ⊢
      obtain ⟨k', h1, h2, c', h3, rfl⟩ := hPick_get hb
      obtain rfl := finj k' k (.inr h1) hk h2
      rw [hc] at h3; cases h3
      rw [hb]
  have hdead : aget 4095 (canon pin live st).heap = some .dead := by
    rw [hheap, aget_append]
    split
    · rename_i b' hb'
      obtain ⟨k, h1, h2, _⟩ := hPick_get hb'
      rw [fpin k h1] at h2
      have := hpin k h1; omega
    · simp [aget]
  have hren : ∀ k b, aget k st.heap = some b → ∃ c, aget (f k) (canon pin live st).heap = some c ∧ (c = .dead ∨ (c = renB f b ∧ ρ' (f k) = ρ k)) := fun k b hb => by
    by_cases hk : k ∈ pin ∨ k ∈ keys
    · exact ⟨_, hsome k b hk hb, .inr ⟨rfl, by simp only [ρ']; rw [invf k hk]⟩⟩
    · have h1 : k ∉ pin := fun x => hk (.inl x)
      have h2 : k ∉ keys := fun x => hk (.inr x)
      exact ⟨.dead, by rw [fout k h1 h2]; exact hdead, .inl rfl⟩
  refine ⟨ρ', ⟨I.ext, I.sub, I.sup, I.lt, fun j b hb => ?_, fun j b hb ho => ?_, fun j j' b b' hb hb' ho ho' hne => ?_⟩, fun t v hv => ?_, fun k hk => ⟨?_, fun c hc => ?_⟩⟩
  · rcases hget j b hb with rfl | ⟨k, hk, rfl, c, hc, rfl⟩
    · trivial
    · have hρ : ρ' (f k) = ρ k := by simp only [ρ']; rw [invf k hk]
      rw [hρ]
      have r := I.blk k c hc
      cases c with
      | dead => trivial
      | row sz agg xs => exact r
      | ice sz agg xs => exact r
      | itr s pos => exact r
      | icv n agg e => exact r
      | var n agg v =>
        obtain ⟨r1, r2, ⟨lt, fits, g, c1, c2, c3⟩, r4⟩ := r
        exact ⟨r1, r2, ⟨lt, by rw [renV_fits]; exact fits, g, c1, c2, renV_rep hren c3⟩, r4⟩
  · rcases hget j b hb with rfl | ⟨k, hk, rfl, c, hc, rfl⟩
    · cases ho
    · have hρ : ρ' (f k) = ρ k := by simp only [ρ']; rw [invf k hk]
      rw [hρ]; rw [renB_owned] at ho
      exact I.own k c hc ho
  · rcases hget j b hb with rfl | ⟨k, hk, rfl, c, hc, rfl⟩
    · cases ho
    rcases hget j' b' hb' with rfl | ⟨k', hk', rfl, c', hc', rfl⟩
    · cases ho'
    have hρ : ρ' (f k) = ρ k := by simp only [ρ']; rw [invf k hk]
    have hρ' : ρ' (f k') = ρ k' := by simp only [ρ']; rw [invf k' hk']
    rw [hρ, hρ']
    rw [renB_owned] at ho ho'
    exact I.dis k k' c c' hc hc' ho ho' (fun e => hne (by rw [e]))
  · rw [henv, aget_map] at hv
    obtain ⟨u, hu, rfl⟩ := Option.map_eq_some_iff.1 hv
    obtain ⟨x, hx, Rx⟩ := E t u (aget_live hu)
    exact ⟨x, hx, renV_rep hren Rx⟩
  · show ρ (inv k) = ρ k
    have := invf k (.inl hk)
    rw [fpin k hk] at this; rw [this]
  · have := hsome k c (.inl hk) hc
    rw [fpin k hk] at this
    exact ⟨_, this, renB_var _ _, fun e => by subst e; rfl⟩
end
end Go.Ab
end
section
namespace Go.Ab
def AExit.real : AExit → Exit
  | .normal => .normal
  | .exit id => .exit id
  | .ret => .ret
def ekT (P : Program) (t : TypeId) : Option EK := match P.underlying t with
  | some (.int k) => some (.int k)
  | some .bool => some .bool
  | some .string => some .str
  | _ => none
def compO (P : Program) (modes : Nat → List Mode × List Mode) (N : Nat) (ops : Array Oper) (o : Oper) : Option AOper :=
  match compI P modes o.op, (match o.dst with | some d => Nat.blt d N | none => true) with
  | some i, true => match o.guard with
    | none => some { dst := o.dst, ins := i, guard := none, kind := ekT P o.type }
    | some (j, want) => match (ops[j]?).bind (·.dst) with
      | some t => some { dst := o.dst, ins := i, guard := some (t, want), kind := ekT P o.type }
      | none => none
  | _, _ => none
def compOps (P : Program) (modes : Nat → List Mode × List Mode) (N : Nat) (ops : Array Oper) : List Oper → Option (List AOper)
  | [] => some []
  | o :: r => match compO P modes N ops o, compOps P modes N ops r with | some x, some l => some (x :: l) | _, _ => none
structure Inv (W0 : World) (S0 M : Nat → Prop) (N : Nat) (pins : List Nat) (pl : Nat → Place × (Nat × Bool)) (W : World) (S : Nat → Prop) (ρ : Nat → Place) (st : St) (a : Act) : Prop where
  H : HInv W0 S0 M W S ρ st.heap
  E : EInv W S ρ st.heap st.env a
  size : N ≤ a.tmps.size
  dfr : a.defers = []
  pin : ∀ k ∈ pins, ρ k = (pl k).1 ∧ ∃ b, aget k st.heap = some b ∧ (b = .dead ∨ b.varOf = some (pl k).2)
section
variable {P : Program} {W0 W W' : World} {S0 M S S' : Nat → Prop} {ρ ρ' : Nat → Place} {st : St} {a : Act} {N : Nat} {pins : List Nat} {pl : Nat → Place × (Nat × Bool)} {R : Nat → List TV → Option Ans} {modes : Nat → List Mode × List Mode}
theorem Inv.put (J : Inv W0 S0 M N pins pl W S ρ st a) {st' : St} {v : LV} {x : Value} {dst : Option Nat} (hd : (match dst with | some d => Nat.blt d N | none => true) = true) (he : st'.env = st.env) (H : HInv W0 S0 M W' S' ρ' st'.heap) (L : Later W S ρ st.heap W' S' ρ' st'.heap) (Rv : RepL W' S' ρ' st'.heap v x) :
    Inv W0 S0 M N pins pl W' S' ρ' (putD st' dst v) (a.put dst x) := by
  have pin : ∀ k ∈ pins, ρ' k = (pl k).1 ∧ ∃ b, aget k st'.heap = some b ∧ (b = .dead ∨ b.varOf = some (pl k).2) := fun k hk => by
    obtain ⟨h1, b, hb, hbc⟩ := J.pin k hk
    obtain ⟨h3, b', hb', hle⟩ := L.dom k b hb
    refine ⟨h3.trans h1, b', hb', ?_⟩
    rcases hle with h0 | ⟨a1, a2, a3, a4, e1, e2, e3⟩ | ⟨n, agg, e1, e2⟩
    · exact .inl h0
    · rcases hbc with rfl | hbc
      · cases e1
      · cases b <;> simp_all [Blk.rowOf, Blk.varOf]
    · rcases hbc with rfl | hbc
      · cases e1
      · right; rw [e1] at hbc; rw [e2]; exact hbc
  cases dst with
  | none => exact ⟨H, fun t v hv => by rw [show (putD st' none _).env = st'.env from rfl, he] at hv; obtain ⟨y, hy, Ry⟩ := J.E t v hv; exact ⟨y, hy, Ry.later L⟩, J.size, J.dfr, pin⟩
  | some d =>
    have hd : d < N := by simpa using hd
    refine ⟨H, fun t u hu => ?_, by simpa [Act.put] using J.size, J.dfr, pin⟩
    have hu' : aget t (aset d v st'.env) = some u := hu
    rw [aget_aset] at hu'
    by_cases htd : d = t
    · subst htd
      rw [if_pos rfl] at hu'; cases hu'
      exact ⟨x, by simp [Act.put, Array.getElem?_setIfInBounds]; have := J.size; omega, Rv⟩
    · rw [if_neg htd, he] at hu'
      obtain ⟨y, hy, Ry⟩ := J.E t u hu'
      exact ⟨y, by simp only [Act.put]; rw [Array.getElem?_setIfInBounds_ne htd]; exact hy, Ry.later L⟩
variable {β : Type} {r : β}
theorem stepO_ok {ops : Array Oper} {o : Oper} {ao : AOper} {K : St → Option β} {Q : Exit → Act → World → Prop} (hR : OkB P R W0 S0 M) (hc : compO P modes N ops o = some ao) (J : Inv W0 S0 M N pins pl W S ρ st a) (e : stepO R ao st K = some r) {next : Act → World → Prop}
    (hn : ∀ st' W' S' ρ' a', K st' = some r → Inv W0 S0 M N pins pl W' S' ρ' st' a' → next a' W') :
    if Region.wanted o (yielded ops a.tmps) then o.wp P a W next Q ∨ (o.asks P a W ∧ LetsOut Q) else next (a.put o.dst undef) W := by
  unfold compO at hc
  split at hc
  · rename_i i hi hd
    have go : stepI R (4 * o.dst.getD 0) st i (fun v st' => K (putD st' o.dst v)) = some r → o.wp P a W next Q := fun e => by
      obtain ⟨v, st', hk, he, hres⟩ := comp_good hi hR J.H J.E e
      exact hres.wp fun x W' ⟨S', ρ', H, L, Rv⟩ => hn _ _ _ _ _ hk (J.put hd he H L Rv)
    have no : K (putD st o.dst (.tup [])) = some r → next (a.put o.dst undef) W := fun e =>
      hn _ _ _ _ _ e (J.put hd rfl J.H (Later.refl _ _ _ _) (.tup [] #[] rfl (fun j e v he _ => by simp at he)))
    split at hc
    · rename_i hg
      cases hc
      simp only [stepO] at e
      rw [if_pos (by simp [Region.wanted, hg])]
      exact .inl (go e)
    · rename_i j want hg
      split at hc
      · rename_i t ht
        cases hc
        simp only [stepO] at e
        have hy : ∀ v, yielded ops a.tmps j = v ↔ (match a.tmps[t]? with | some (.bool b) => some b | _ => none) = v := fun v => by
          unfold yielded; rw [ht]; rfl
        split at e
        · rename_i htv
          obtain ⟨x, hx, Rx⟩ := J.E t _ htv
          cases Rx with
          | tup _ vs hl hh =>
          have : yielded ops a.tmps j = none := (hy _).2 (by rw [hx])
          rw [if_neg (by simp [Region.wanted, hg, this])]
          exact no e
        · rename_i v hnt htv
          obtain ⟨x, hx, Rx⟩ := J.E t _ htv
          obtain ⟨b, rfl, e⟩ := getB_ok Rx e
          have hyb : yielded ops a.tmps j = some b := (hy _).2 (by rw [hx])
          have hw : Region.wanted o (yielded ops a.tmps) = (b == want) := by simp [Region.wanted, hg, hyb]
          rw [hw]
          cases want <;> cases b <;> simp only [] at e
          · rw [if_pos (by decide)]; exact .inl (go e)
          · rw [if_neg (by decide)]; exact no e
          · rw [if_neg (by decide)]; exact no e
          · rw [if_pos (by decide)]; exact .inl (go e)
        · cases e
      · cases hc
  · cases hc
theorem execOps_ok {ops : Array Oper} (hR : OkB P R W0 S0 M) {Q : Exit → Act → World → Prop} {K : St → Option β} (hQ : ∀ st' W' S' ρ' a', K st' = some r → Inv W0 S0 M N pins pl W' S' ρ' st' a' → Q .normal a' W') :
    ∀ (l : List Oper) (al : List AOper) (i0 : Nat), ops.toList.drop i0 = l → compOps P modes N ops l = some al → ∀ (W : World) (S : Nat → Prop) (ρ : Nat → Place) (st : St) (a : Act), Inv W0 S0 M N pins pl W S ρ st a → execOps R al st K = some r → wpOps P ops Q (List.range' i0 l.length) a W
  | [], al, i0, _, hc, W, S, ρ, st, a, J, e => by
    cases hc
    exact hQ _ _ _ _ _ e J
  | o :: l, al, i0, hd, hc, W, S, ρ, st, a, J, e => by
    simp only [compOps] at hc
    split at hc <;> cases hc
    rename_i x l' h1 h2
    have ho : ops[i0]? = some o := by
      have : (ops.toList.drop i0)[0]? = some o := by rw [hd]; rfl
      rw [List.getElem?_drop] at this
      simpa using this
    have hd2 : ops.toList.drop (i0 + 1) = l := by
      have := congrArg List.tail hd
      rw [List.tail_drop] at this
      simpa using this
    simp only [List.length_cons, List.range'_succ, wpOps_cons]
    unfold wpOp
    simp only [ho]
    exact stepO_ok hR h1 J e fun st' W' S' ρ' a' hk J' => execOps_ok hR hQ l l' (i0 + 1) hd2 h2 W' S' ρ' st' a' J' hk
theorem wp_rounds {c : Code} {Q : Exit → Act → World → Prop} (I : Nat → Act → World → Prop) (round : ∀ n a w, I n a w → c.wp P (Exit.then (fun a' w' => ∃ m, m < n ∧ I m a' w') Q) a w) {n : Nat} {a : Act} {w : World} (h0 : I n a w) : (Code.loop c).wp P Q a w := by
  intro b k cs
  have key : ∀ n a w, I n a w → ∃ e a' w', Q e a' w' ∧ Arrives P (lone (b.at a (.code c :: .inLoop c :: k)) cs w) b k cs e a' w' := by
    intro n
    induction n using Nat.strongRecOn with
    | ind n ih =>
      intro a w hI
      obtain ⟨e, a1, w1, hq, ha⟩ := round n a w hI b (.inLoop c :: k) cs
      have off : e ≠ .normal → Q e a1 w1 → ∃ e a' w', Q e a' w' ∧ Arrives P (lone (b.at a (.code c :: .inLoop c :: k)) cs w) b k cs e a' w' :=
        fun hne hq => ⟨e, a1, w1, hq, .pass (x := .inLoop c) rfl (fun _ _ => .inl hne) ha⟩
      cases e with
      | normal =>
        obtain ⟨m, hm, hI1⟩ := hq
        obtain ⟨e2, a2, w2, hq2, ha2⟩ := ih m hm a1 w1 hI1
        exact ⟨e2, a2, w2, hq2, .of_steps (Steps.trans ha (.one step_inLoop)) ha2⟩
      | exit id => exact off (by simp) hq
      | goto l => exact off (by simp) hq
      | ret => exact off (by simp) hq
      | panic ch => exact off (by simp) hq
      | outgrown => exact off (by simp) hq
  obtain ⟨e, a', w', hq, ha⟩ := key n a w h0
  exact ⟨e, a', w', hq, .of_steps (.one step_loop) ha⟩
end
end Go.Ab
end
section
namespace Go.Ab
structure Fac {α : Type} (F : (γ : Type) → (α → Option γ) → Option γ) : Prop where
  out : ∀ (β : Type) (K : α → Option β) (r : β), F β K = some r → ∃ y, K y = some r ∧ ∀ (γ : Type) (K' : α → Option γ), F γ K' = K' y
theorem Fac.pure {α : Type} {F : (γ : Type) → (α → Option γ) → Option γ} (y : α) (e : ∀ γ K, F γ K = K y) : Fac F := ⟨fun β K r h => ⟨y, (e β K).symm.trans h, fun γ K' => e γ K'⟩⟩
theorem Fac.fail {α : Type} {F : (γ : Type) → (α → Option γ) → Option γ} (e : ∀ γ K, F γ K = none) : Fac F := ⟨fun β K r h => by rw [e] at h; cases h⟩
theorem Fac.bind {α δ : Type} {F : (γ : Type) → (α → Option γ) → Option γ} {G : (γ : Type) → (δ → Option γ) → Option γ} {H : δ → (γ : Type) → (α → Option γ) → Option γ} (g : Fac G) (h : ∀ x, Fac (H x)) (e : ∀ γ K, F γ K = G γ (fun x => H x γ K)) : Fac F := ⟨fun β K r hr => by
  rw [e] at hr
  obtain ⟨x, e1, f1⟩ := g.out _ _ _ hr
  obtain ⟨y, e2, f2⟩ := (h x).out _ _ _ e1
  exact ⟨y, e2, fun γ K' => by rw [e, f1]; exact f2 γ K'⟩⟩
theorem Fac.when {α : Type} {F : (γ : Type) → (α → Option γ) → Option γ} {c : Bool} {F' : (γ : Type) → (α → Option γ) → Option γ} (f : Fac F') (e : ∀ γ K, F γ K = Ab.when c (F' γ K)) : Fac F := ⟨fun β K r h => by
  rw [e] at h
  obtain ⟨hc, h⟩ := when_some h
  obtain ⟨y, e1, f1⟩ := f.out _ _ _ h
  exact ⟨y, e1, fun γ K' => by rw [e, hc]; exact f1 γ K'⟩⟩
theorem Fac.of {α : Type} {F F' : (γ : Type) → (α → Option γ) → Option γ} (f : Fac F') (e : ∀ γ K, F γ K = F' γ K) : Fac F := by
  have : F = F' := by funext γ K; exact e γ K
  rw [this]; exact f
theorem ev_fac (st : St) (x : Opnd) : Fac (fun γ (K : LV → Option γ) => ev st x K) := by
  cases x with
  | c v => exact .pure v fun _ _ => rfl
  | t n =>
    simp only [ev]
    cases aget n st.env with
    | some v => exact .pure v fun _ _ => rfl
    | none => exact .fail fun _ _ => rfl
theorem evs_fac (st : St) : ∀ xs, Fac (fun γ (K : List LV → Option γ) => evs st xs K)
  | [] => .pure [] fun _ _ => rfl
  | x :: r => by
    refine .bind (ev_fac st x) (fun v => ?_) (fun _ _ => rfl)
    exact .bind (evs_fac st r) (fun l => .pure (v :: l) fun _ _ => rfl) (fun _ _ => rfl)
theorem getI_fac (k : IntKind) (v : LV) : Fac (fun γ (K : Int → Option γ) => getI k v K) := .when (.pure v.toInt fun _ _ => rfl) fun _ _ => rfl
theorem getN_fac (v : LV) : Fac (fun γ (K : Int → Option γ) => getN v K) := .when (.pure v.toInt fun _ _ => rfl) fun _ _ => rfl
theorem getB_fac (v : LV) : Fac (fun γ (K : Bool → Option γ) => getB v K) := .when (.pure v.toBool fun _ _ => rfl) fun _ _ => rfl
theorem getS_fac (v : LV) : Fac (fun γ (K : ByteArray → Option γ) => getS v K) := .when (.pure v.toStr fun _ _ => rfl) fun _ _ => rfl
theorem exps_fac (n : Nat) (v : LV) : Fac (fun γ (K : List LV → Option γ) => exps n v K) := by
  cases v with
  | ag cs => exact .when (.pure cs fun _ _ => rfl) fun _ _ => rfl
  | fz e => exact .when (.pure _ fun _ _ => rfl) fun _ _ => rfl
  | _ => exact .fail fun _ _ => rfl
theorem part_fac (m n : Nat) (agg : Bool) (off : Nat) (v : LV) : Fac (fun γ (K : LV → Option γ) => part m n agg off v K) := by
  cases v with
  | ag cs =>
    cases agg with
    | true => exact .when (.when (.pure _ fun _ _ => rfl) fun _ _ => rfl) fun _ _ => rfl
    | false =>
      refine .when (F' := fun γ (K : LV → Option γ) => match cs[off]? with | some x => K x | none => none) ?_ fun _ _ => rfl
      cases cs[off]? with
      | some x => exact .pure x fun _ _ => rfl
      | none => exact .fail fun _ _ => rfl
  | fz e =>
    cases agg with
    | true => exact .when (.when (.pure _ fun _ _ => rfl) fun _ _ => rfl) fun _ _ => rfl
    | false => exact .when (.when (.pure _ fun _ _ => rfl) fun _ _ => rfl) fun _ _ => rfl
  | _ => exact .fail fun _ _ => rfl
theorem putPart_fac (m n : Nat) (agg : Bool) (off : Nat) (v x : LV) : Fac (fun γ (K : LV → Option γ) => putPart m n agg off v x K) := by
  cases agg with
  | true => exact .bind (exps_fac m v) (fun cs => .bind (exps_fac n x) (fun ds => .when (.pure _ fun _ _ => rfl) fun _ _ => rfl) fun _ _ => rfl) fun _ _ => rfl
  | false =>
    have other : Fac (fun γ (K : LV → Option γ) => exps m v fun cs => when (Nat.blt off m) (K (mkAg (cs.set off x)))) := .bind (exps_fac m v) (fun cs => .when (.pure _ fun _ _ => rfl) fun _ _ => rfl) fun _ _ => rfl
    cases v <;> cases x <;> first
      | exact .of other fun _ _ => rfl
      | exact .when other fun _ _ => rfl
      | exact .when (.when (.pure _ fun _ _ => rfl) fun _ _ => rfl) fun _ _ => rfl
      | exact .fail fun _ _ => rfl
theorem frzs_fac {f : (γ : Type) → List (Nat × Blk) → LV → (FV → List (Nat × Blk) → Option γ) → Option γ} (hf : ∀ h v, Fac (fun γ (K : FV × List (Nat × Blk) → Option γ) => f γ h v fun e h' => K (e, h'))) :
    ∀ (vs : List LV) (h : List (Nat × Blk)), Fac (fun γ (K : List FV × List (Nat × Blk) → Option γ) => frzs (f γ) h vs fun l h' => K (l, h'))
  | [], h => .pure ([], h) fun _ _ => rfl
  | v :: r, h => by
    refine .bind (H := fun p γ K => frzs (f γ) p.2 r fun l h'' => K (p.1 :: l, h'')) (hf h v) (fun p => ?_) (fun _ _ => rfl)
    exact .bind (H := fun q γ K => K (p.1 :: q.1, q.2)) (frzs_fac hf r p.2) (fun q => .pure _ fun _ _ => rfl) (fun _ _ => rfl)
theorem frz_fac : ∀ (m : Nat) (h : List (Nat × Blk)) (v : LV), Fac (fun γ (K : FV × List (Nat × Blk) → Option γ) => frz m h v fun e h' => K (e, h'))
  | 0, h, v => .fail fun _ _ => rfl
  | m + 1, h, v => by
    have ih := frz_fac m
    cases v with
    | fz e => exact .pure (e, h) fun _ _ => rfl
    | nils => exact .pure (.sl [], h) fun _ _ => rfl
    | rw key =>
      simp only [frz]
      cases aget key h with
      | none => exact .fail fun _ _ => rfl
      | some b => cases b <;> first | exact .pure (_, _) fun _ _ => rfl | exact .fail fun _ _ => rfl
    | loc key off len =>
      simp only [frz]
      cases aget key h with
      | none => exact .fail fun _ _ => rfl
      | some b => cases b <;> first | exact .when (.pure (_, _) fun _ _ => rfl) fun _ _ => rfl | exact .fail fun _ _ => rfl
    | ptr key i off =>
      simp only [frz]
      cases aget key h with
      | none => exact .fail fun _ _ => rfl
      | some b =>
        cases b with
        | dead => exact .fail fun _ _ => rfl
        | itr _ _ => exact .fail fun _ _ => rfl
        | row sz agg xs => exact .when (.pure (_, _) fun _ _ => rfl) fun _ _ => rfl
        | ice sz agg xs => exact .when (.pure (_, _) fun _ _ => rfl) fun _ _ => rfl
        | icv n agg e => exact .when (.pure (_, _) fun _ _ => rfl) fun _ _ => rfl
        | var n agg u =>
          refine .when (F' := fun γ (K : FV × List (Nat × Blk) → Option γ) => frz m h u fun e h' => match aget key h' with
            | some (.var _ _ _) => K (.pt n agg e off, aset key (.icv n agg e) h')
            | _ => none) ?_ fun _ _ => rfl
          refine .bind (H := fun p γ (K : FV × List (Nat × Blk) → Option γ) => match aget key p.2 with
            | some (.var _ _ _) => K (.pt n agg p.1 off, aset key (.icv n agg p.1) p.2)
            | _ => none) (ih h u) (fun p => ?_) fun _ _ => rfl
          cases aget key p.2 with
          | none => exact .fail fun _ _ => rfl
          | some b => cases b <;> first | exact .pure (_, _) fun _ _ => rfl | exact .fail fun _ _ => rfl
    | ag cs => exact .bind (H := fun p γ (K : FV × List (Nat × Blk) → Option γ) => K (.ag p.1, p.2)) (frzs_fac (f := fun γ => frz m) ih cs h) (fun p => .pure (_, _) fun _ _ => rfl) fun _ _ => rfl
    | clo f cs => exact .bind (H := fun p γ (K : FV × List (Nat × Blk) → Option γ) => K (.fn f p.1, p.2)) (frzs_fac (f := fun γ => frz m) ih cs h) (fun p => .pure (_, _) fun _ _ => rfl) fun _ _ => rfl
    | tup vs => exact .fail fun _ _ => rfl
theorem chill_fac (h : List (Nat × Blk)) (v : LV) : Fac (fun γ (K : List (Nat × Blk) → Option γ) => chill h v K) := by
  have same : Fac (fun γ (K : List (Nat × Blk) → Option γ) => K h) := .pure h fun _ _ => rfl
  cases v with
  | ptr key i off =>
    simp only [chill]
    cases aget key h with
    | none => exact same
    | some b =>
      cases b with
      | var n agg u =>
        simp only
        cases u.isFz with
        | true => exact same
        | false =>
          refine .bind (H := fun (p : FV × List (Nat × Blk)) γ (K : List (Nat × Blk) → Option γ) => match aget key p.2 with
            | some (.var n agg _) => K (aset key (.var n agg (.fz p.1)) p.2)
            | _ => none) (frz_fac 5 h u) (fun p => ?_) fun _ _ => rfl
          cases aget key p.2 with
          | none => exact .fail fun _ _ => rfl
          | some b => cases b <;> first | exact .pure _ fun _ _ => rfl | exact .fail fun _ _ => rfl
      | row _ _ _ => exact same
      | ice _ _ _ => exact same
      | itr _ _ => exact same
      | icv _ _ _ => exact same
      | dead => exact same
  | _ => exact same
theorem gives_fac : ∀ (l : List (LV × Mode)) (h : List (Nat × Blk)), Fac (fun γ (K : List GV × List (Nat × Blk) → Option γ) => gives h l fun g h' => K (g, h'))
  | [], h => .pure ([], h) fun _ _ => rfl
  | (v, m) :: r, h => by
    have other : Fac (fun γ (K : List GV × List (Nat × Blk) → Option γ) => gives h r fun l h' => K (.v v m :: l, h')) := .bind (H := fun p γ K => K (.v v m :: p.1, p.2)) (gives_fac r h) (fun p => .pure _ fun _ _ => rfl) fun _ _ => rfl
    cases m with
    | fz =>
      refine .bind (H := fun p γ K => gives p.2 r fun l h'' => K (.f p.1 :: l, h'')) (frz_fac 5 h v) (fun p => ?_) fun _ _ => rfl
      exact .bind (H := fun q γ K => K (.f p.1 :: q.1, q.2)) (gives_fac r p.2) (fun q => .pure _ fun _ _ => rfl) fun _ _ => rfl
    | uq sz agg => exact .of other fun _ _ => rfl
    | pv n agg =>
      refine .bind (H := fun h' γ K => gives h' r fun l h'' => K (.v v (.pv n agg) :: l, h'')) (chill_fac h v) (fun p => ?_) fun _ _ => rfl
      exact .bind (H := fun q γ K => K (.v v (.pv n agg) :: q.1, q.2)) (gives_fac r p) (fun q => .pure _ fun _ _ => rfl) fun _ _ => rfl
theorem fills_fac (h : List (Nat × Blk)) : ∀ (l : List GV), Fac (fun γ (K : List TV × List Nat → Option γ) => fills h l fun t k => K (t, k))
  | [] => .pure ([], []) fun _ _ => rfl
  | g :: r => by
    have go : ∀ (f : List TV × List Nat → List TV × List Nat), Fac (fun γ (K : List TV × List Nat → Option γ) => fills h r fun ts ks => K (f (ts, ks))) := fun f => .bind (H := fun p γ K => K (f p)) (fills_fac h r) (fun p => .pure _ fun _ _ => rfl) fun _ _ => rfl
    cases g with
    | f e => exact .of (go fun p => (.fz e :: p.1, p.2)) fun _ _ => rfl
    | v x m =>
      simp only [fills]
      cases m with
      | fz => exact .fail fun _ _ => rfl
      | pv _ _ =>
        cases x with
        | fz e => exact .when (go fun p => (.fz e :: p.1, p.2)) fun _ _ => rfl
        | ptr key i off =>
          refine .when (F' := fun γ (K : List TV × List Nat → Option γ) => match aget key h with
            | some (.var n agg v) => when (closed 3 v) (fills h r fun ts ks => K (.pv n agg v :: ts, key :: ks))
            | _ => none) ?_ fun _ _ => rfl
          cases aget key h with
          | none => exact .fail fun _ _ => rfl
          | some b =>
            cases b with
            | var n agg v => exact .when (go fun p => (.pv n agg v :: p.1, key :: p.2)) fun _ _ => rfl
            | _ => exact .fail fun _ _ => rfl
        | _ => exact .fail fun _ _ => rfl
      | uq sz agg =>
        cases x with
        | nils => exact .of (go fun p => (.em :: p.1, p.2)) fun _ _ => rfl
        | rw key =>
          simp only []
          cases aget key h with
          | none => exact .fail fun _ _ => rfl
          | some b =>
            cases b with
            | row sz' agg' xs => exact .when (go fun p => (.uq sz agg xs :: p.1, key :: p.2)) fun _ _ => rfl
            | _ => exact .fail fun _ _ => rfl
        | _ => exact .fail fun _ _ => rfl
theorem takes_fac2 (key : Nat) (ms : List Mode) (ts : List TV) (st : St) : Fac (fun γ (K : List LV × St → Option γ) => takes key ms ts st fun v s => K (v, s)) := ⟨fun β K r e => by
  obtain ⟨l, s, _, h⟩ := takes_fac ms ts key st e
  exact ⟨(l, s), by rw [← h (fun l s => K (l, s))]; exact e, fun γ K' => h _⟩⟩
theorem backs_fac (h0 : List (Nat × Blk)) : ∀ (ks : List Nat) (vs : List LV) (st : St), Fac (fun γ (K : St → Option γ) => backs h0 ks vs st K)
  | [], [], st => .pure st fun _ _ => rfl
  | k :: ks, v :: vs, st => by
    simp only [backs]
    cases aget k h0 with
    | none => exact .fail fun _ _ => rfl
    | some b => cases b <;> first | exact backs_fac h0 ks vs _ | exact .fail fun _ _ => rfl
  | [], _ :: _, st => .fail fun _ _ => rfl
  | _ :: _, [], st => .fail fun _ _ => rfl
theorem intOp_fac (op : BinOp) (k : IntKind) (a b : Int) : Fac (fun γ (K : FV → Option γ) => intOp op k a b K) := by
  cases op <;> first | exact .pure _ fun _ _ => rfl | exact .when (.pure _ fun _ _ => rfl) fun _ _ => rfl | exact .fail fun _ _ => rfl
theorem shOp_fac (op : BinOp) (k : IntKind) (a b : Int) : Fac (fun γ (K : FV → Option γ) => shOp op k a b K) := by
  cases op <;> first | exact .when (.pure _ fun _ _ => rfl) fun _ _ => rfl | exact .when (.fail fun _ _ => rfl) fun _ _ => rfl
theorem strOp_fac (op : BinOp) (a b : ByteArray) : Fac (fun γ (K : FV → Option γ) => strOp op a b K) := by
  cases op <;> first | exact .pure _ fun _ _ => rfl | exact .when (.pure _ fun _ _ => rfl) fun _ _ => rfl | exact .fail fun _ _ => rfl
theorem optI_fac (o : Option LV) (d : Int) : Fac (fun γ (K : Int → Option γ) => optI o d K) := by
  cases o with
  | none => exact .pure d fun _ _ => rfl
  | some v => exact getN_fac v
theorem frzO_fac : ∀ (l : List (Nat × LV)) (h : List (Nat × Blk)), Fac (fun γ (K : List (Nat × FV) × List (Nat × Blk) → Option γ) => frzO h l fun x h' => K (x, h'))
  | [], h => .pure ([], h) fun _ _ => rfl
  | (i, v) :: r, h => by
    refine .bind (H := fun p γ K => frzO p.2 r fun l h'' => K ((i, p.1) :: l, h'')) (frz_fac 5 h v) (fun p => ?_) fun _ _ => rfl
    exact .bind (H := fun q γ K => K ((i, p.1) :: q.1, q.2)) (frzO_fac r p.2) (fun q => .pure _ fun _ _ => rfl) fun _ _ => rfl
theorem evParts_fac (st : St) : ∀ (l : List (Nat × Opnd)), Fac (fun γ (K : List (Nat × LV) → Option γ) => evParts st l K)
  | [] => .pure [] fun _ _ => rfl
  | (i, x) :: r => by
    refine .bind (ev_fac st x) (fun v => ?_) fun _ _ => rfl
    exact .bind (evParts_fac st r) (fun l => .pure ((i, v) :: l) fun _ _ => rfl) fun _ _ => rfl
theorem putParts_fac (st : St) (m : Nat) : ∀ (l : List (Nat × Nat × Bool × Opnd)) (v : LV), Fac (fun γ (K : LV → Option γ) => putParts st m v l K)
  | [], v => .pure v fun _ _ => rfl
  | (off, n, agg, x) :: r, v => by
    refine .bind (ev_fac st x) (fun y => ?_) fun _ _ => rfl
    exact .bind (putPart_fac m n agg off v y) (fun v' => putParts_fac st m r v') fun _ _ => rfl
theorem evO_fac (st : St) (x : Option Opnd) : Fac (fun γ (K : Option LV → Option γ) => evO st x K) := by
  cases x with
  | none => exact .pure none fun _ _ => rfl
  | some x => exact .bind (ev_fac st x) (fun v => .pure (some v) fun _ _ => rfl) fun _ _ => rfl
theorem rowLen_fac (b : Option Blk) : Fac (fun γ (K : Nat × Bool × List FV → Option γ) => rowLen b fun s g x => K (s, g, x)) := by
  cases b with
  | none => exact .fail fun _ _ => rfl
  | some b => cases b <;> first | exact .pure (_, _, _) fun _ _ => rfl | exact .fail fun _ _ => rfl
theorem behind_fac (sz : Nat) (agg str : Bool) (h : List (Nat × Blk)) (y : LV) : Fac (fun γ (K : List FV → Option γ) => behind sz agg str h y K) := by
  cases str with
  | true => exact .bind (getS_fac y) (fun s => .pure _ fun _ _ => rfl) fun _ _ => rfl
  | false =>
    cases y with
    | nils => exact .pure [] fun _ _ => rfl
    | fz e => exact .when (.pure _ fun _ _ => rfl) fun _ _ => rfl
    | rw key => exact .bind (H := fun p γ K => when (sz == p.1 && agg == p.2.1) (K p.2.2)) (rowLen_fac (aget key h)) (fun p => .when (.pure _ fun _ _ => rfl) fun _ _ => rfl) fun _ _ => rfl
    | loc key off len => exact .bind (H := fun p γ K => when (sz == p.1 && agg == p.2.1 && Nat.ble (off + len) p.2.2.length) (K ((p.2.2.drop off).take len))) (rowLen_fac (aget key h)) (fun p => .when (.pure _ fun _ _ => rfl) fun _ _ => rfl) fun _ _ => rfl
    | _ => exact .fail fun _ _ => rfl
theorem front_fac (sz : Nat) (agg : Bool) (h : List (Nat × Blk)) (x : LV) : Fac (fun γ (K : List FV × List (Nat × Blk) → Option γ) => front sz agg h x fun l h' => K (l, h')) := by
  cases x with
  | nils => exact .pure ([], h) fun _ _ => rfl
  | rw key =>
    simp only [front]
    cases aget key h with
    | none => exact .fail fun _ _ => rfl
    | some b => cases b <;> first | exact .when (.pure (_, _) fun _ _ => rfl) fun _ _ => rfl | exact .fail fun _ _ => rfl
  | loc key off len =>
    simp only [front]
    cases aget key h with
    | none => exact .fail fun _ _ => rfl
    | some b => cases b <;> first | exact .when (.pure (_, _) fun _ _ => rfl) fun _ _ => rfl | exact .fail fun _ _ => rfl
  | _ => exact .fail fun _ _ => rfl
end Go.Ab
end
section
namespace Go.Ab
theorem fresh_fac {st : St} {key : Nat} {v : LV} {b : Blk} {h : List (Nat × Blk)} {e : List (Nat × LV)} : Fac (fun γ (K : LV × St → Option γ) => match aget key h with | none => K (v, { env := e, heap := aset key b h }) | some _ => none) := by
  cases aget key h with
  | none => exact .pure _ fun _ _ => rfl
  | some b => exact .fail fun _ _ => rfl
theorem stepI_call {β : Type} (R : Nat → List TV → Option Ans) (key : Nat) (st : St) (f : Nat) (args : List (Opnd × Mode)) (outs : List Mode) (K : LV → St → Option β) :
    stepI R key st (.call f args outs) K = evs st (args.map Prod.fst) fun vs => gives st.heap (vs.zip (args.map Prod.snd)) fun gs h => fills h gs fun ts ks =>
      when (nodupB ks && ts.all TV.lends) (match R f ts with
        | none => none
        | some r => when (formed outs ks r) (backs h ks r.2 { st with heap := h } fun st => takes key outs r.1 st fun l st => K (one l) st)) := by
  simp only [stepI, answered_eq]
  rfl
theorem stepI_callV {β : Type} (R : Nat → List TV → Option Ans) (key : Nat) (st : St) (x : Opnd) (args : List Opnd) (K : LV → St → Option β) :
    stepI R key st (.callV x args) K = ev st x fun v => match v with
      | .fz e => when e.isFn (evs st args fun vs => frzs (frz 5) st.heap vs fun es h => match R e.fnN ((es ++ e.fnC).map .fz) with
        | none => none
        | some r => when (formed [.fz] [] r) (backs h [] r.2 { st with heap := h } fun st => takes key [.fz] r.1 st fun l st => K (one l) st))
      | _ => none := by
  simp only [stepI, answered_eq]
  rfl
theorem stepI_fac (R : Nat → List TV → Option Ans) (key : Nat) (st : St) (i : AI) : Fac (fun γ (K : LV × St → Option γ) => stepI R key st i fun v s => K (v, s)) := by
  cases i with
  | mov x => exact .bind (ev_fac st x) (fun v => .pure (v, st) fun _ _ => rfl) fun _ _ => rfl
  | pick c a b =>
    refine .bind (ev_fac st c) (fun c => ?_) fun _ _ => rfl
    refine .bind (getB_fac c) (fun c => ?_) fun _ _ => rfl
    cases c with
    | true => exact .bind (ev_fac st a) (fun v => .pure (v, st) fun _ _ => rfl) fun _ _ => rfl
    | false => exact .bind (ev_fac st b) (fun v => .pure (v, st) fun _ _ => rfl) fun _ _ => rfl
  | rngS x =>
    refine .bind (ev_fac st x) (fun v => ?_) fun _ _ => rfl
    refine .bind (getS_fac v) (fun s => ?_) fun _ _ => rfl
    exact fresh_fac (st := st) (key := key) (h := st.heap) (e := st.env)
  | nextS x =>
    refine .bind (ev_fac st x) (fun v => ?_) fun _ _ => rfl
    cases v with
    | ptr k i off =>
      simp only []
      cases aget k st.heap with
      | none => exact .fail fun _ _ => rfl
      | some b =>
        cases b with
        | itr s pos =>
          refine .when (F' := fun γ (K : LV × St → Option γ) => match Nat.blt pos s.size with
            | true => K (.tup [.fz (.bool true), .fz (.int .i64 pos), .fz (.int .i32 (Utf8.decode s pos).1)], st.set k (.itr s (pos + (Utf8.decode s pos).2)))
            | false => K (.tup [.fz (.bool false)], st)) ?_ fun _ _ => rfl
          cases Nat.blt pos s.size with
          | true => exact .pure _ fun _ _ => rfl
          | false => exact .pure _ fun _ _ => rfl
        | _ => exact .fail fun _ _ => rfl
    | _ => exact .fail fun _ _ => rfl
  | alloc n agg z => exact .when (fresh_fac (st := st) (key := key) (h := st.heap) (e := st.env)) fun _ _ => rfl
  | box n agg x =>
    refine .bind (ev_fac st x) (fun v => ?_) fun _ _ => rfl
    exact .when (fresh_fac (st := st) (key := key) (h := st.heap) (e := st.env)) fun _ _ => rfl
  | build n z parts => exact .bind (putParts_fac st n parts (mkAg z)) (fun v => .pure (v, st) fun _ _ => rfl) fun _ _ => rfl
  | buildSl sz agg len z parts =>
    refine .bind (evParts_fac st parts) (fun l => ?_) fun _ _ => rfl
    refine .bind (H := fun p γ K => when (p.1.all fun q => q.2.fits sz agg && Nat.blt q.1 len) (match aget key p.2 with
      | none => K (.rw key, { st with heap := aset key (.row sz agg (sets (List.replicate len z) p.1)) p.2 })
      | some _ => none)) (frzO_fac l st.heap) (fun p => ?_) fun _ _ => rfl
    exact .when (fresh_fac (st := st) (key := key) (h := p.2) (e := st.env)) fun _ _ => rfl
  | load n agg a =>
    refine .bind (ev_fac st a) (fun a => ?_) fun _ _ => rfl
    cases a with
    | fz p =>
      refine .when (F' := fun γ (K : LV × St → Option γ) => match n == p.ptN && (agg == p.ptAgg && p.ptOff == 0) with
        | true => K (.fz p.ptE, st)
        | false => when p.ptAgg (part p.ptN n agg p.ptOff (.fz p.ptE) fun v => K (v, st))) ?_ fun _ _ => rfl
      cases n == p.ptN && (agg == p.ptAgg && p.ptOff == 0) with
      | true => exact .pure _ fun _ _ => rfl
      | false => exact .when (.bind (part_fac p.ptN n agg p.ptOff (.fz p.ptE)) (fun v => .pure (v, st) fun _ _ => rfl) fun _ _ => rfl) fun _ _ => rfl
    | ptr k i off =>
      simp only []
      have rowc : ∀ b, Fac (fun γ (K : LV × St → Option γ) => rowLen b fun sz agg' xs => when (Nat.blt i xs.length) (match n == sz && (agg == agg' && off == 0) with
          | true => K (.fz (xs.getD i .nilp), st)
          | false => when agg' (part sz n agg off (.fz (xs.getD i .nilp)) fun v => K (v, st)))) := fun b => by
        refine .bind (H := fun p γ K => when (Nat.blt i p.2.2.length) (match n == p.1 && (agg == p.2.1 && off == 0) with
          | true => K (.fz (p.2.2.getD i .nilp), st)
          | false => when p.2.1 (part p.1 n agg off (.fz (p.2.2.getD i .nilp)) fun v => K (v, st)))) (rowLen_fac b) (fun p => ?_) fun _ _ => rfl
        refine .when (F' := fun γ (K : LV × St → Option γ) => match n == p.1 && (agg == p.2.1 && off == 0) with
          | true => K (.fz (p.2.2.getD i .nilp), st)
          | false => when p.2.1 (part p.1 n agg off (.fz (p.2.2.getD i .nilp)) fun v => K (v, st))) ?_ fun _ _ => rfl
        cases n == p.1 && (agg == p.2.1 && off == 0) with
        | true => exact .pure _ fun _ _ => rfl
        | false => exact .when (.bind (part_fac p.1 n agg off (.fz (p.2.2.getD i .nilp))) (fun v => .pure (v, st) fun _ _ => rfl) fun _ _ => rfl) fun _ _ => rfl
      cases aget k st.heap with
      | none => exact .of (rowc none) fun _ _ => rfl
      | some b =>
        cases b with
        | var m agg' v =>
          refine .when (F' := fun γ (K : LV × St → Option γ) => match n == m && (agg == agg' && off == 0) with
            | true => K (v, st)
            | false => when agg' (part m n agg off v fun v => K (v, st))) ?_ fun _ _ => rfl
          cases n == m && (agg == agg' && off == 0) with
          | true => exact .pure _ fun _ _ => rfl
          | false => exact .when (.bind (part_fac m n agg off v) (fun v => .pure (v, st) fun _ _ => rfl) fun _ _ => rfl) fun _ _ => rfl
        | row sz agg' xs => exact .of (rowc (some (.row sz agg' xs))) fun _ _ => rfl
        | ice sz agg' xs => exact .of (rowc (some (.ice sz agg' xs))) fun _ _ => rfl
        | itr s pos => exact .of (rowc (some (.itr s pos))) fun _ _ => rfl
        | icv m agg' v =>
          refine .when (F' := fun γ (K : LV × St → Option γ) => match n == m && (agg == agg' && off == 0) with
            | true => K (.fz v, st)
            | false => when agg' (part m n agg off (.fz v) fun v => K (v, st))) ?_ fun _ _ => rfl
          cases n == m && (agg == agg' && off == 0) with
          | true => exact .pure _ fun _ _ => rfl
          | false => exact .when (.bind (part_fac m n agg off (.fz v)) (fun v => .pure (v, st) fun _ _ => rfl) fun _ _ => rfl) fun _ _ => rfl
        | dead => exact .of (rowc (some .dead)) fun _ _ => rfl
    | _ => exact .fail fun _ _ => rfl
  | store n agg a v =>
    refine .bind (ev_fac st a) (fun a => ?_) fun _ _ => rfl
    refine .bind (ev_fac st v) (fun v => ?_) fun _ _ => rfl
    cases a with
    | ptr k i off =>
      simp only []
      cases aget k st.heap with
      | none => exact .fail fun _ _ => rfl
      | some b =>
        cases b with
        | var m agg' u =>
          refine .when (F' := fun γ (K : LV × St → Option γ) => match n == m && (agg == agg' && off == 0) with
            | true => when (lfits m agg' v) (K (.tup [], st.set k (.var m agg' v)))
            | false => when agg' (putPart m n agg off u v fun u => K (.tup [], st.set k (.var m agg' u)))) ?_ fun _ _ => rfl
          cases n == m && (agg == agg' && off == 0) with
          | true => exact .when (.pure _ fun _ _ => rfl) fun _ _ => rfl
          | false => exact .when (.bind (putPart_fac m n agg off u v) (fun v => .pure (_, _) fun _ _ => rfl) fun _ _ => rfl) fun _ _ => rfl
        | row sz0 agg0 xs0 =>
          refine .bind (H := fun (p : FV × List (Nat × Blk)) γ (K : LV × St → Option γ) => match aget k p.2 with
            | some (.row sz agg' xs) => when (Nat.blt i xs.length) (match n == sz && (agg == agg' && off == 0) with
              | true => when (p.1.fits sz agg) (K (.tup [], { st with heap := aset k (.row sz agg' (xs.set i p.1)) p.2 }))
              | false => when agg' (putPart sz n agg off (.fz (xs.getD i .nilp)) (.fz p.1) fun u => match u with
                | .fz f => K (.tup [], { st with heap := aset k (.row sz agg' (xs.set i f)) p.2 })
                | _ => none))
            | _ => none) (frz_fac 5 st.heap v) (fun p => ?_) fun _ _ => rfl
          cases aget k p.2 with
          | none => exact .fail fun _ _ => rfl
          | some b =>
            cases b with
            | row sz agg' xs =>
              refine .when (F' := fun γ (K : LV × St → Option γ) => match n == sz && (agg == agg' && off == 0) with
                | true => when (p.1.fits sz agg) (K (.tup [], { st with heap := aset k (.row sz agg' (xs.set i p.1)) p.2 }))
                | false => when agg' (putPart sz n agg off (.fz (xs.getD i .nilp)) (.fz p.1) fun u => match u with
                  | .fz f => K (.tup [], { st with heap := aset k (.row sz agg' (xs.set i f)) p.2 })
                  | _ => none)) ?_ fun _ _ => rfl
              cases n == sz && (agg == agg' && off == 0) with
              | true => exact .when (.pure _ fun _ _ => rfl) fun _ _ => rfl
              | false =>
                refine .when (F' := fun γ (K : LV × St → Option γ) => putPart sz n agg off (.fz (xs.getD i .nilp)) (.fz p.1) fun u => match u with
                  | .fz f => K (.tup [], { st with heap := aset k (.row sz agg' (xs.set i f)) p.2 })
                  | _ => none) ?_ fun _ _ => rfl
                refine .bind (H := fun u γ (K : LV × St → Option γ) => match u with
                  | .fz f => K (.tup [], { st with heap := aset k (.row sz agg' (xs.set i f)) p.2 })
                  | _ => none) (putPart_fac sz n agg off (.fz (xs.getD i .nilp)) (.fz p.1)) (fun u => ?_) fun _ _ => rfl
                cases u with
                | fz f => exact .pure _ fun _ _ => rfl
                | _ => exact .fail fun _ _ => rfl
            | _ => exact .fail fun _ _ => rfl
        | _ => exact .fail fun _ _ => rfl
    | _ => exact .fail fun _ _ => rfl
  | nilck x =>
    refine .bind (ev_fac st x) (fun v => ?_) fun _ _ => rfl
    cases v with
    | fz p => exact .when (.pure _ fun _ _ => rfl) fun _ _ => rfl
    | ptr k i off => exact .when (.pure _ fun _ _ => rfl) fun _ _ => rfl
    | _ => exact .fail fun _ _ => rfl
  | binI op k x y =>
    refine .bind (ev_fac st x) (fun x => ?_) fun _ _ => rfl
    refine .bind (ev_fac st y) (fun y => ?_) fun _ _ => rfl
    refine .bind (getI_fac k x) (fun a => ?_) fun _ _ => rfl
    refine .bind (getI_fac k y) (fun b => ?_) fun _ _ => rfl
    exact .bind (intOp_fac op k a b) (fun e => .pure (.fz e, st) fun _ _ => rfl) fun _ _ => rfl
  | shft op k yk x y =>
    refine .bind (ev_fac st x) (fun x => ?_) fun _ _ => rfl
    refine .bind (ev_fac st y) (fun y => ?_) fun _ _ => rfl
    refine .bind (getI_fac k x) (fun a => ?_) fun _ _ => rfl
    refine .bind (getI_fac yk y) (fun b => ?_) fun _ _ => rfl
    exact .bind (shOp_fac op k a b) (fun e => .pure (.fz e, st) fun _ _ => rfl) fun _ _ => rfl
  | binS op x y =>
    refine .bind (ev_fac st x) (fun x => ?_) fun _ _ => rfl
    refine .bind (ev_fac st y) (fun y => ?_) fun _ _ => rfl
    refine .bind (getS_fac x) (fun a => ?_) fun _ _ => rfl
    refine .bind (getS_fac y) (fun b => ?_) fun _ _ => rfl
    exact .bind (strOp_fac op a b) (fun e => .pure (.fz e, st) fun _ _ => rfl) fun _ _ => rfl
  | binB neg x y =>
    refine .bind (ev_fac st x) (fun x => ?_) fun _ _ => rfl
    refine .bind (ev_fac st y) (fun y => ?_) fun _ _ => rfl
    refine .bind (getB_fac x) (fun a => ?_) fun _ _ => rfl
    exact .bind (getB_fac y) (fun b => .pure (_, st) fun _ _ => rfl) fun _ _ => rfl
  | eqA neg ks x y =>
    refine .bind (ev_fac st x) (fun x => ?_) fun _ _ => rfl
    refine .bind (ev_fac st y) (fun y => ?_) fun _ _ => rfl
    split
    · exact .when (.when (.pure (_, st) fun _ _ => rfl) fun _ _ => rfl) fun _ _ => rfl
    · exact .fail fun _ _ => rfl
  | eqNil neg x =>
    refine .bind (ev_fac st x) (fun v => ?_) fun _ _ => rfl
    cases v with
    | fz p => exact .when (.pure (_, st) fun _ _ => rfl) fun _ _ => rfl
    | ptr k i off => exact .when (.pure (_, st) fun _ _ => rfl) fun _ _ => rfl
    | _ => exact .fail fun _ _ => rfl
  | notB x =>
    refine .bind (ev_fac st x) (fun v => ?_) fun _ _ => rfl
    exact .bind (getB_fac v) (fun b => .pure (_, st) fun _ _ => rfl) fun _ _ => rfl
  | negI k x =>
    refine .bind (ev_fac st x) (fun v => ?_) fun _ _ => rfl
    exact .bind (getI_fac k v) (fun b => .pure (_, st) fun _ _ => rfl) fun _ _ => rfl
  | conv k k' x =>
    refine .bind (ev_fac st x) (fun v => ?_) fun _ _ => rfl
    exact .bind (getI_fac k v) (fun b => .pure (_, st) fun _ _ => rfl) fun _ _ => rfl
  | i2s k x =>
    refine .bind (ev_fac st x) (fun v => ?_) fun _ _ => rfl
    exact .bind (getI_fac k v) (fun b => .pure (_, st) fun _ _ => rfl) fun _ _ => rfl
  | b2s x =>
    refine .bind (ev_fac st x) (fun v => ?_) fun _ _ => rfl
    exact .bind (behind_fac 1 false false st.heap v) (fun l => .when (.pure (_, st) fun _ _ => rfl) fun _ _ => rfl) fun _ _ => rfl
  | s2b x =>
    refine .bind (ev_fac st x) (fun v => ?_) fun _ _ => rfl
    refine .bind (getS_fac v) (fun s => ?_) fun _ _ => rfl
    exact .of (fresh_fac (st := st) (key := key) (h := st.heap) (e := st.env)) fun _ _ => rfl
  | mkSl sz agg bytes z len cap =>
    refine .bind (ev_fac st len) (fun x => ?_) fun _ _ => rfl
    refine .bind (ev_fac st cap) (fun y => ?_) fun _ _ => rfl
    refine .bind (getN_fac x) (fun a => ?_) fun _ _ => rfl
    refine .bind (getN_fac y) (fun b => ?_) fun _ _ => rfl
    exact .when (fresh_fac (st := st) (key := key) (h := st.heap) (e := st.env)) fun _ _ => rfl
  | slice k x lo hi mx =>
    refine .bind (ev_fac st x) (fun x => ?_) fun _ _ => rfl
    refine .bind (evO_fac st lo) (fun lo => ?_) fun _ _ => rfl
    refine .bind (evO_fac st hi) (fun hi => ?_) fun _ _ => rfl
    refine .bind (evO_fac st mx) (fun mx => ?_) fun _ _ => rfl
    cases mx with
    | some m =>
      cases k with
      | sl sz agg =>
        cases lo with
        | some _ => exact .fail fun _ _ => rfl
        | none =>
          refine .bind (optI_fac hi 1) (fun h => ?_) fun _ _ => rfl
          refine .bind (getN_fac m) (fun m => ?_) fun _ _ => rfl
          refine .when (F' := fun γ (K : LV × St → Option γ) => match x with
            | .nils => K (.nils, st)
            | .fz e => when e.isSl (K (.nils, st))
            | _ => none) ?_ fun _ _ => rfl
          cases x with
          | nils => exact .pure _ fun _ _ => rfl
          | fz e => exact .when (.pure _ fun _ _ => rfl) fun _ _ => rfl
          | _ => exact .fail fun _ _ => rfl
      | _ => exact .fail fun _ _ => rfl
    | none =>
      cases k with
      | str =>
        refine .bind (getS_fac x) (fun s => ?_) fun _ _ => rfl
        refine .bind (optI_fac hi s.size) (fun h => ?_) fun _ _ => rfl
        refine .bind (optI_fac lo 0) (fun l => ?_) fun _ _ => rfl
        exact .when (.when (.pure (_, st) fun _ _ => rfl) fun _ _ => rfl) fun _ _ => rfl
      | arr len sz agg => exact .fail fun _ _ => rfl
      | sl sz agg =>
        cases x with
        | nils =>
          refine .bind (optI_fac hi 0) (fun h => ?_) fun _ _ => rfl
          refine .bind (optI_fac lo 0) (fun l => ?_) fun _ _ => rfl
          exact .when (.pure (_, st) fun _ _ => rfl) fun _ _ => rfl
        | fz e =>
          refine .when (F' := fun γ (K : LV × St → Option γ) => optI hi e.toSl.length fun h => optI lo 0 fun l =>
            when (decide (0 ≤ h) && decide (h ≤ e.toSl.length)) (when (decide (0 ≤ l) && decide (l ≤ h)) (K (.fz (.sl ((e.toSl.take h.toNat).drop l.toNat)), st)))) ?_ fun _ _ => rfl
          refine .bind (optI_fac hi e.toSl.length) (fun h => ?_) fun _ _ => rfl
          refine .bind (optI_fac lo 0) (fun l => ?_) fun _ _ => rfl
          exact .when (.when (.pure (_, st) fun _ _ => rfl) fun _ _ => rfl) fun _ _ => rfl
        | rw k =>
          refine .bind (H := fun p γ (K : LV × St → Option γ) => when (sz == p.1 && agg == p.2.1) (optI hi p.2.2.length fun h => optI lo 0 fun l =>
            when (decide (0 ≤ h) && decide (h ≤ p.2.2.length)) (when (decide (0 ≤ l) && decide (l ≤ h)) (K (.loc k l.toNat (h.toNat - l.toNat), st))))) (rowLen_fac (aget k st.heap)) (fun p => ?_) fun _ _ => rfl
          refine .when (F' := fun γ (K : LV × St → Option γ) => optI hi p.2.2.length fun h => optI lo 0 fun l =>
            when (decide (0 ≤ h) && decide (h ≤ p.2.2.length)) (when (decide (0 ≤ l) && decide (l ≤ h)) (K (.loc k l.toNat (h.toNat - l.toNat), st)))) ?_ fun _ _ => rfl
          refine .bind (optI_fac hi p.2.2.length) (fun h => ?_) fun _ _ => rfl
          refine .bind (optI_fac lo 0) (fun l => ?_) fun _ _ => rfl
          exact .when (.when (.pure (_, st) fun _ _ => rfl) fun _ _ => rfl) fun _ _ => rfl
        | loc k off len =>
          refine .bind (H := fun p γ (K : LV × St → Option γ) => when (sz == p.1 && agg == p.2.1) (optI hi len fun h => optI lo 0 fun l =>
            when (decide (0 ≤ h) && decide (h ≤ len)) (when (decide (0 ≤ l) && decide (l ≤ h)) (K (.loc k (off + l.toNat) (h.toNat - l.toNat), st))))) (rowLen_fac (aget k st.heap)) (fun p => ?_) fun _ _ => rfl
          refine .when (F' := fun γ (K : LV × St → Option γ) => optI hi len fun h => optI lo 0 fun l =>
            when (decide (0 ≤ h) && decide (h ≤ len)) (when (decide (0 ≤ l) && decide (l ≤ h)) (K (.loc k (off + l.toNat) (h.toNat - l.toNat), st)))) ?_ fun _ _ => rfl
          refine .bind (optI_fac hi len) (fun h => ?_) fun _ _ => rfl
          refine .bind (optI_fac lo 0) (fun l => ?_) fun _ _ => rfl
          exact .when (.when (.pure (_, st) fun _ _ => rfl) fun _ _ => rfl) fun _ _ => rfl
        | _ => exact .fail fun _ _ => rfl
  | fadr off x =>
    refine .bind (ev_fac st x) (fun v => ?_) fun _ _ => rfl
    cases v with
    | fz p => exact .when (.pure (_, st) fun _ _ => rfl) fun _ _ => rfl
    | ptr k i off => exact .when (.pure (_, st) fun _ _ => rfl) fun _ _ => rfl
    | _ => exact .fail fun _ _ => rfl
  | field m n agg off x =>
    refine .bind (ev_fac st x) (fun v => ?_) fun _ _ => rfl
    exact .bind (part_fac m n agg off v) (fun v => .pure (v, st) fun _ _ => rfl) fun _ _ => rfl
  | iadr k x i =>
    refine .bind (ev_fac st x) (fun x => ?_) fun _ _ => rfl
    refine .bind (ev_fac st i) (fun i => ?_) fun _ _ => rfl
    refine .bind (getN_fac i) (fun i => ?_) fun _ _ => rfl
    cases k with
    | str => exact .fail fun _ _ => rfl
    | arr len sz agg =>
      refine .when (F' := fun γ (K : LV × St → Option γ) => match x with
        | .fz p => when p.isPt (K (.fz (.pt p.ptN p.ptAgg p.ptE (p.ptOff + i.toNat * sz)), st))
        | .ptr key j o => when (alive (aget key st.heap)) (K (.ptr key j (o + i.toNat * sz), st))
        | _ => none) ?_ fun _ _ => rfl
      cases x with
      | fz p => exact .when (.pure (_, st) fun _ _ => rfl) fun _ _ => rfl
      | ptr k i off => exact .when (.pure (_, st) fun _ _ => rfl) fun _ _ => rfl
      | _ => exact .fail fun _ _ => rfl
    | sl sz agg =>
      cases x with
      | fz e => exact .when (.when (.when (.pure (_, st) fun _ _ => rfl) fun _ _ => rfl) fun _ _ => rfl) fun _ _ => rfl
      | rw k => exact .bind (H := fun p γ (K : LV × St → Option γ) => when (sz == p.1 && agg == p.2.1) (when (decide (0 ≤ i) && decide (i < p.2.2.length)) (K (.ptr k i.toNat 0, st)))) (rowLen_fac (aget k st.heap)) (fun p => .when (.when (.pure (_, st) fun _ _ => rfl) fun _ _ => rfl) fun _ _ => rfl) fun _ _ => rfl
      | loc k off len => exact .bind (H := fun p γ (K : LV × St → Option γ) => when (sz == p.1 && agg == p.2.1) (when (decide (0 ≤ i) && decide (i < len)) (K (.ptr k (off + i.toNat) 0, st)))) (rowLen_fac (aget k st.heap)) (fun p => .when (.when (.pure (_, st) fun _ _ => rfl) fun _ _ => rfl) fun _ _ => rfl) fun _ _ => rfl
      | _ => exact .fail fun _ _ => rfl
  | index k x i =>
    refine .bind (ev_fac st x) (fun x => ?_) fun _ _ => rfl
    refine .bind (ev_fac st i) (fun i => ?_) fun _ _ => rfl
    refine .bind (getN_fac i) (fun i => ?_) fun _ _ => rfl
    cases k with
    | str =>
      refine .bind (getS_fac x) (fun s => ?_) fun _ _ => rfl
      exact .when (.pure (_, st) fun _ _ => rfl) fun _ _ => rfl
    | arr len sz agg => exact .when (.bind (part_fac (len * sz) sz agg (i.toNat * sz) x) (fun v => .pure (v, st) fun _ _ => rfl) fun _ _ => rfl) fun _ _ => rfl
    | sl sz agg => exact .fail fun _ _ => rfl
  | extract x i =>
    refine .bind (ev_fac st x) (fun v => ?_) fun _ _ => rfl
    cases v with
    | tup vs =>
      simp only []
      cases vs[i]? with
      | some v => exact .pure (v, st) fun _ _ => rfl
      | none => exact .fail fun _ _ => rfl
    | _ => exact .fail fun _ _ => rfl
  | call f args outs =>
    refine .bind (H := fun vs γ (K : LV × St → Option γ) => gives st.heap (vs.zip (args.map Prod.snd)) fun gs h => fills h gs fun ts ks =>
      when (nodupB ks && ts.all TV.lends) (match R f ts with
        | none => none
        | some r => when (formed outs ks r) (backs h ks r.2 { st with heap := h } fun st => takes key outs r.1 st fun l st => K (one l, st)))) (evs_fac st (args.map Prod.fst)) (fun vs => ?_) fun _ _ => stepI_call R key st f args outs _
    refine .bind (H := fun p γ (K : LV × St → Option γ) => fills p.2 p.1 fun ts ks =>
      when (nodupB ks && ts.all TV.lends) (match R f ts with
        | none => none
        | some r => when (formed outs ks r) (backs p.2 ks r.2 { st with heap := p.2 } fun st => takes key outs r.1 st fun l st => K (one l, st)))) (gives_fac (vs.zip (args.map Prod.snd)) st.heap) (fun p => ?_) fun _ _ => rfl
    refine .bind (H := fun q γ (K : LV × St → Option γ) => when (nodupB q.2 && q.1.all TV.lends) (match R f q.1 with
        | none => none
        | some r => when (formed outs q.2 r) (backs p.2 q.2 r.2 { st with heap := p.2 } fun st => takes key outs r.1 st fun l st => K (one l, st)))) (fills_fac p.2 p.1) (fun q => ?_) fun _ _ => rfl
    refine .when (F' := fun γ (K : LV × St → Option γ) => match R f q.1 with
        | none => none
        | some r => when (formed outs q.2 r) (backs p.2 q.2 r.2 { st with heap := p.2 } fun st => takes key outs r.1 st fun l st => K (one l, st))) ?_ fun _ _ => rfl
    cases R f q.1 with
    | none => exact .fail fun _ _ => rfl
    | some r =>
      refine .when (F' := fun γ (K : LV × St → Option γ) => backs p.2 q.2 r.2 { st with heap := p.2 } fun st => takes key outs r.1 st fun l st => K (one l, st)) ?_ fun _ _ => rfl
      refine .bind (backs_fac p.2 q.2 r.2 { st with heap := p.2 }) (fun st => ?_) fun _ _ => rfl
      exact .bind (H := fun p γ (K : LV × St → Option γ) => K (one p.1, p.2)) (takes_fac2 key outs r.1 st) (fun p => .pure _ fun _ _ => rfl) fun _ _ => rfl
  | len k x =>
    refine .bind (ev_fac st x) (fun x => ?_) fun _ _ => rfl
    cases k with
    | str => exact .bind (getS_fac x) (fun s => .pure (_, st) fun _ _ => rfl) fun _ _ => rfl
    | arr len sz agg => exact .pure (_, st) fun _ _ => rfl
    | sl sz agg =>
      cases x with
      | nils => exact .pure (_, st) fun _ _ => rfl
      | fz e => exact .when (.pure (_, st) fun _ _ => rfl) fun _ _ => rfl
      | rw k => exact .bind (H := fun p γ (K : LV × St → Option γ) => when (sz == p.1 && agg == p.2.1) (K (.fz (.int .i64 p.2.2.length), st))) (rowLen_fac (aget k st.heap)) (fun p => .when (.pure (_, st) fun _ _ => rfl) fun _ _ => rfl) fun _ _ => rfl
      | loc k off len => exact .bind (H := fun _ γ (K : LV × St → Option γ) => K (.fz (.int .i64 len), st)) (rowLen_fac (aget k st.heap)) (fun p => .pure (_, st) fun _ _ => rfl) fun _ _ => rfl
      | _ => exact .fail fun _ _ => rfl
  | append sz agg bytes str x y =>
    refine .bind (ev_fac st x) (fun x => ?_) fun _ _ => rfl
    refine .bind (ev_fac st y) (fun y => ?_) fun _ _ => rfl
    refine .bind (behind_fac sz agg str st.heap y) (fun ys => ?_) fun _ _ => rfl
    refine .bind (H := fun p γ (K : LV × St → Option γ) => when (decide ((p.1.length + ys.length) * bytes ≤ roomy) && decide (p.1.length + ys.length ≤ roomy)) (match isNils x && ys.isEmpty with
        | true => K (.nils, st)
        | false => match aget key p.2 with
          | none => K (.rw key, { st with heap := aset key (.row sz agg (p.1 ++ ys)) p.2 })
          | some _ => none)) (front_fac sz agg st.heap x) (fun p => ?_) fun _ _ => rfl
    refine .when (F' := fun γ (K : LV × St → Option γ) => match isNils x && ys.isEmpty with
        | true => K (.nils, st)
        | false => match aget key p.2 with
          | none => K (.rw key, { st with heap := aset key (.row sz agg (p.1 ++ ys)) p.2 })
          | some _ => none) ?_ fun _ _ => rfl
    cases isNils x && ys.isEmpty with
    | true => exact .pure _ fun _ _ => rfl
    | false => exact fresh_fac (st := st)
  | mkFn f caps => exact .bind (evs_fac st caps) (fun vs => .pure (.clo f vs, st) fun _ _ => rfl) fun _ _ => rfl
  | callV x args =>
    refine .bind (H := fun v γ (K : LV × St → Option γ) => match v with
      | .fz e => when e.isFn (evs st args fun vs => frzs (frz 5) st.heap vs fun es h => match R e.fnN ((es ++ e.fnC).map .fz) with
        | none => none
        | some r => when (formed [.fz] [] r) (backs h [] r.2 { st with heap := h } fun st => takes key [.fz] r.1 st fun l st => K (one l, st)))
      | _ => none) (ev_fac st x) (fun v => ?_) fun _ _ => stepI_callV R key st x args _
    cases v with
    | fz e =>
      refine .when (c := e.isFn) (F' := fun γ (K : LV × St → Option γ) => evs st args fun vs => frzs (frz 5) st.heap vs fun es h => match R e.fnN ((es ++ e.fnC).map .fz) with
        | none => none
        | some r => when (formed [.fz] [] r) (backs h [] r.2 { st with heap := h } fun st => takes key [.fz] r.1 st fun l st => K (one l, st))) ?_ fun _ _ => rfl
      refine .bind (H := fun vs γ (K : LV × St → Option γ) => frzs (frz 5) st.heap vs fun es h => match R e.fnN ((es ++ e.fnC).map .fz) with
        | none => none
        | some r => when (formed [.fz] [] r) (backs h [] r.2 { st with heap := h } fun st => takes key [.fz] r.1 st fun l st => K (one l, st))) (evs_fac st args) (fun vs => ?_) fun _ _ => rfl
      refine .bind (H := fun p γ (K : LV × St → Option γ) => match R e.fnN ((p.1 ++ e.fnC).map .fz) with
        | none => none
        | some r => when (formed [.fz] [] r) (backs p.2 [] r.2 { st with heap := p.2 } fun st => takes key [.fz] r.1 st fun l st => K (one l, st))) (frzs_fac (f := fun γ => frz 5) (frz_fac 5) vs st.heap) (fun p => ?_) fun _ _ => rfl
      cases R e.fnN ((p.1 ++ e.fnC).map .fz) with
      | none => exact .fail fun _ _ => rfl
      | some r =>
        refine .when (c := formed [.fz] [] r) (F' := fun γ (K : LV × St → Option γ) => backs p.2 [] r.2 { st with heap := p.2 } fun st => takes key [.fz] r.1 st fun l st => K (one l, st)) ?_ fun _ _ => rfl
        refine .bind (H := fun st' γ (K : LV × St → Option γ) => takes key [.fz] r.1 st' fun l st => K (one l, st)) (backs_fac p.2 [] r.2 { st with heap := p.2 }) (fun st' => ?_) fun _ _ => rfl
        exact .bind (H := fun l γ (K : LV × St → Option γ) => K (one l.1, l.2)) (takes_fac2 key [.fz] r.1 st') (fun l => .pure (one l.1, l.2) fun _ _ => rfl) fun _ _ => rfl
    | _ => exact .fail fun _ _ => rfl
  | slArr len sz x =>
    refine .bind (ev_fac st x) (fun v => ?_) fun _ _ => rfl
    cases v with
    | ptr k i off =>
      simp only []
      cases aget k st.heap with
      | none => exact .fail fun _ _ => rfl
      | some b =>
        cases b with
        | var n agg v =>
          refine .when (c := (i == 0 && (off == 0 && (n == len * sz && agg)))) (F' := fun γ (K : LV × St → Option γ) => frz 5 st.heap v fun e h => match aget k h with
            | some (.var _ _ _) => K (.fz (.sl (chunks len sz e)), { st with heap := aset k (.icv n agg e) h })
            | _ => none) ?_ fun _ _ => rfl
          refine .bind (H := fun p γ (K : LV × St → Option γ) => match aget k p.2 with
            | some (.var _ _ _) => K (.fz (.sl (chunks len sz p.1)), { st with heap := aset k (.icv n agg p.1) p.2 })
            | _ => none) (frz_fac 5 st.heap v) (fun p => ?_) fun _ _ => rfl
          cases aget k p.2 with
          | none => exact .fail fun _ _ => rfl
          | some b => cases b <;> first | exact .pure (_, _) fun _ _ => rfl | exact .fail fun _ _ => rfl
        | _ => exact .fail fun _ _ => rfl
    | _ => exact .fail fun _ _ => rfl
  | slTail len x i =>
    refine .bind (ev_fac st x) (fun x => ?_) fun _ _ => rfl
    refine .bind (ev_fac st i) (fun i => ?_) fun _ _ => rfl
    refine .bind (getN_fac i) (fun i => ?_) fun _ _ => rfl
    refine .when (c := (decide (0 ≤ i) && decide (i ≤ len))) (F' := fun γ (K : LV × St → Option γ) => match x with
      | .ptr k j off => (match aget k st.heap with
        | some (.var n agg v) => when (j == 0 && (off == 0 && (n == len && agg))) (frz 5 st.heap v fun e h => match aget k h with
          | some (.var _ _ _) => when (e.toAg.all fun c => c.fits 1 false) (K (.fz (.sl (e.toAg.drop i.toNat)), { st with heap := aset k (.icv n agg e) h }))
          | _ => none)
        | _ => none)
      | _ => none) ?_ fun _ _ => rfl
    cases x with
    | ptr k j off =>
      simp only []
      cases aget k st.heap with
      | none => exact .fail fun _ _ => rfl
      | some b =>
        cases b with
        | var n agg v =>
          refine .when (c := (j == 0 && (off == 0 && (n == len && agg)))) (F' := fun γ (K : LV × St → Option γ) => frz 5 st.heap v fun e h => match aget k h with
            | some (.var _ _ _) => when (e.toAg.all fun c => c.fits 1 false) (K (.fz (.sl (e.toAg.drop i.toNat)), { st with heap := aset k (.icv n agg e) h }))
            | _ => none) ?_ fun _ _ => rfl
          refine .bind (H := fun p γ (K : LV × St → Option γ) => match aget k p.2 with
            | some (.var _ _ _) => when (p.1.toAg.all fun c => c.fits 1 false) (K (.fz (.sl (p.1.toAg.drop i.toNat)), { st with heap := aset k (.icv n agg p.1) p.2 }))
            | _ => none) (frz_fac 5 st.heap v) (fun p => ?_) fun _ _ => rfl
          cases aget k p.2 with
          | none => exact .fail fun _ _ => rfl
          | some b => cases b <;> first | exact .when (.pure (_, _) fun _ _ => rfl) fun _ _ => rfl | exact .fail fun _ _ => rfl
        | _ => exact .fail fun _ _ => rfl
    | _ => exact .fail fun _ _ => rfl
end Go.Ab
end
section
namespace Go.Ab
structure RdF (st : St) (F : (γ : Type) → (LV × St → Option γ) → Option γ) : Prop where
  out : ∀ (β : Type) (K : LV × St → Option β) (r : β), F β K = some r → ∃ v, K (v, st) = some r
theorem RdF.pure {st : St} {F : (γ : Type) → (LV × St → Option γ) → Option γ} (v : LV) (e : ∀ γ K, F γ K = K (v, st)) : RdF st F := ⟨fun β K r h => ⟨v, (e β K).symm.trans h⟩⟩
theorem RdF.fail {st : St} {F : (γ : Type) → (LV × St → Option γ) → Option γ} (e : ∀ γ K, F γ K = none) : RdF st F := ⟨fun β K r h => by rw [e] at h; cases h⟩
theorem RdF.bind {δ : Type} {st : St} {F : (γ : Type) → (LV × St → Option γ) → Option γ} {G : (γ : Type) → (δ → Option γ) → Option γ} {H : δ → (γ : Type) → (LV × St → Option γ) → Option γ} (g : Fac G) (h : ∀ x, RdF st (H x)) (e : ∀ γ K, F γ K = G γ (fun x => H x γ K)) : RdF st F := ⟨fun β K r hr => by
  rw [e] at hr
  obtain ⟨x, e1, _⟩ := g.out _ _ _ hr
  exact (h x).out _ _ _ e1⟩
theorem RdF.when {st : St} {F : (γ : Type) → (LV × St → Option γ) → Option γ} {c : Bool} {F' : (γ : Type) → (LV × St → Option γ) → Option γ} (f : RdF st F') (e : ∀ γ K, F γ K = Ab.when c (F' γ K)) : RdF st F := ⟨fun β K r h => by
  rw [e] at h
  obtain ⟨hc, h⟩ := when_some h
  exact f.out _ _ _ h⟩
theorem RdF.of {st : St} {F F' : (γ : Type) → (LV × St → Option γ) → Option γ} (f : RdF st F') (e : ∀ γ K, F γ K = F' γ K) : RdF st F := by
  have : F = F' := by funext γ K; exact e γ K
  rw [this]; exact f
theorem stepI_reads (R : Nat → List TV → Option Ans) (key : Nat) (st : St) (i : AI) (hrd : i.reads = true) : RdF st (fun γ (K : LV × St → Option γ) => stepI R key st i fun v s => K (v, s)) := by
  cases i with
  | mov x => exact .bind (ev_fac st x) (fun v => .pure v fun _ _ => rfl) fun _ _ => rfl
  | pick c a b =>
    refine .bind (ev_fac st c) (fun c => ?_) fun _ _ => rfl
    refine .bind (getB_fac c) (fun c => ?_) fun _ _ => rfl
    cases c with
    | true => exact .bind (ev_fac st a) (fun v => .pure v fun _ _ => rfl) fun _ _ => rfl
    | false => exact .bind (ev_fac st b) (fun v => .pure v fun _ _ => rfl) fun _ _ => rfl
  | alloc n agg z => cases hrd
  | rngS x => cases hrd
  | nextS x => cases hrd
  | box n agg x => cases hrd
  | build n z parts => exact .bind (putParts_fac st n parts (mkAg z)) (fun v => .pure v fun _ _ => rfl) fun _ _ => rfl
  | buildSl sz agg len z parts => cases hrd
  | load n agg a =>
    refine .bind (ev_fac st a) (fun a => ?_) fun _ _ => rfl
    cases a with
    | fz p =>
      refine .when (F' := fun γ (K : LV × St → Option γ) => match n == p.ptN && (agg == p.ptAgg && p.ptOff == 0) with
        | true => K (.fz p.ptE, st)
        | false => when p.ptAgg (part p.ptN n agg p.ptOff (.fz p.ptE) fun v => K (v, st))) ?_ fun _ _ => rfl
      cases n == p.ptN && (agg == p.ptAgg && p.ptOff == 0) with
      | true => exact .pure _ fun _ _ => rfl
      | false => exact .when (.bind (part_fac p.ptN n agg p.ptOff (.fz p.ptE)) (fun v => .pure v fun _ _ => rfl) fun _ _ => rfl) fun _ _ => rfl
    | ptr k i off =>
      simp only []
      have rowc : ∀ b, RdF st (fun γ (K : LV × St → Option γ) => rowLen b fun sz agg' xs => when (Nat.blt i xs.length) (match n == sz && (agg == agg' && off == 0) with
          | true => K (.fz (xs.getD i .nilp), st)
          | false => when agg' (part sz n agg off (.fz (xs.getD i .nilp)) fun v => K (v, st)))) := fun b => by
        refine .bind (H := fun p γ K => when (Nat.blt i p.2.2.length) (match n == p.1 && (agg == p.2.1 && off == 0) with
          | true => K (.fz (p.2.2.getD i .nilp), st)
          | false => when p.2.1 (part p.1 n agg off (.fz (p.2.2.getD i .nilp)) fun v => K (v, st)))) (rowLen_fac b) (fun p => ?_) fun _ _ => rfl
        refine .when (F' := fun γ (K : LV × St → Option γ) => match n == p.1 && (agg == p.2.1 && off == 0) with
          | true => K (.fz (p.2.2.getD i .nilp), st)
          | false => when p.2.1 (part p.1 n agg off (.fz (p.2.2.getD i .nilp)) fun v => K (v, st))) ?_ fun _ _ => rfl
        cases n == p.1 && (agg == p.2.1 && off == 0) with
        | true => exact .pure _ fun _ _ => rfl
        | false => exact .when (.bind (part_fac p.1 n agg off (.fz (p.2.2.getD i .nilp))) (fun v => .pure v fun _ _ => rfl) fun _ _ => rfl) fun _ _ => rfl
      cases aget k st.heap with
      | none => exact .of (rowc none) fun _ _ => rfl
      | some b =>
        cases b with
        | var m agg' v =>
          refine .when (F' := fun γ (K : LV × St → Option γ) => match n == m && (agg == agg' && off == 0) with
            | true => K (v, st)
            | false => when agg' (part m n agg off v fun v => K (v, st))) ?_ fun _ _ => rfl
          cases n == m && (agg == agg' && off == 0) with
          | true => exact .pure _ fun _ _ => rfl
          | false => exact .when (.bind (part_fac m n agg off v) (fun v => .pure v fun _ _ => rfl) fun _ _ => rfl) fun _ _ => rfl
        | row sz agg' xs => exact .of (rowc (some (.row sz agg' xs))) fun _ _ => rfl
        | ice sz agg' xs => exact .of (rowc (some (.ice sz agg' xs))) fun _ _ => rfl
        | itr s pos => exact .of (rowc (some (.itr s pos))) fun _ _ => rfl
        | icv m agg' v =>
          refine .when (F' := fun γ (K : LV × St → Option γ) => match n == m && (agg == agg' && off == 0) with
            | true => K (.fz v, st)
            | false => when agg' (part m n agg off (.fz v) fun v => K (v, st))) ?_ fun _ _ => rfl
          cases n == m && (agg == agg' && off == 0) with
          | true => exact .pure _ fun _ _ => rfl
          | false => exact .when (.bind (part_fac m n agg off (.fz v)) (fun v => .pure v fun _ _ => rfl) fun _ _ => rfl) fun _ _ => rfl
        | dead => exact .of (rowc (some .dead)) fun _ _ => rfl
    | _ => exact .fail fun _ _ => rfl
  | store n agg a v => cases hrd
  | nilck x =>
    refine .bind (ev_fac st x) (fun v => ?_) fun _ _ => rfl
    cases v with
    | fz p => exact .when (.pure _ fun _ _ => rfl) fun _ _ => rfl
    | ptr k i off => exact .when (.pure _ fun _ _ => rfl) fun _ _ => rfl
    | _ => exact .fail fun _ _ => rfl
  | binI op k x y =>
    refine .bind (ev_fac st x) (fun x => ?_) fun _ _ => rfl
    refine .bind (ev_fac st y) (fun y => ?_) fun _ _ => rfl
    refine .bind (getI_fac k x) (fun a => ?_) fun _ _ => rfl
    refine .bind (getI_fac k y) (fun b => ?_) fun _ _ => rfl
    exact .bind (intOp_fac op k a b) (fun e => .pure (.fz e) fun _ _ => rfl) fun _ _ => rfl
  | shft op k yk x y =>
    refine .bind (ev_fac st x) (fun x => ?_) fun _ _ => rfl
    refine .bind (ev_fac st y) (fun y => ?_) fun _ _ => rfl
    refine .bind (getI_fac k x) (fun a => ?_) fun _ _ => rfl
    refine .bind (getI_fac yk y) (fun b => ?_) fun _ _ => rfl
    exact .bind (shOp_fac op k a b) (fun e => .pure (.fz e) fun _ _ => rfl) fun _ _ => rfl
  | binS op x y =>
    refine .bind (ev_fac st x) (fun x => ?_) fun _ _ => rfl
    refine .bind (ev_fac st y) (fun y => ?_) fun _ _ => rfl
    refine .bind (getS_fac x) (fun a => ?_) fun _ _ => rfl
    refine .bind (getS_fac y) (fun b => ?_) fun _ _ => rfl
    exact .bind (strOp_fac op a b) (fun e => .pure (.fz e) fun _ _ => rfl) fun _ _ => rfl
  | binB neg x y =>
    refine .bind (ev_fac st x) (fun x => ?_) fun _ _ => rfl
    refine .bind (ev_fac st y) (fun y => ?_) fun _ _ => rfl
    refine .bind (getB_fac x) (fun a => ?_) fun _ _ => rfl
    exact .bind (getB_fac y) (fun b => .pure _ fun _ _ => rfl) fun _ _ => rfl
  | eqA neg ks x y =>
    refine .bind (ev_fac st x) (fun x => ?_) fun _ _ => rfl
    refine .bind (ev_fac st y) (fun y => ?_) fun _ _ => rfl
    split
    · exact .when (.when (.pure _ fun _ _ => rfl) fun _ _ => rfl) fun _ _ => rfl
    · exact .fail fun _ _ => rfl
  | eqNil neg x =>
    refine .bind (ev_fac st x) (fun v => ?_) fun _ _ => rfl
    cases v with
    | fz p => exact .when (.pure _ fun _ _ => rfl) fun _ _ => rfl
    | ptr k i off => exact .when (.pure _ fun _ _ => rfl) fun _ _ => rfl
    | _ => exact .fail fun _ _ => rfl
  | notB x =>
    refine .bind (ev_fac st x) (fun v => ?_) fun _ _ => rfl
    exact .bind (getB_fac v) (fun b => .pure _ fun _ _ => rfl) fun _ _ => rfl
  | negI k x =>
    refine .bind (ev_fac st x) (fun v => ?_) fun _ _ => rfl
    exact .bind (getI_fac k v) (fun b => .pure _ fun _ _ => rfl) fun _ _ => rfl
  | conv k k' x =>
    refine .bind (ev_fac st x) (fun v => ?_) fun _ _ => rfl
    exact .bind (getI_fac k v) (fun b => .pure _ fun _ _ => rfl) fun _ _ => rfl
  | i2s k x =>
    refine .bind (ev_fac st x) (fun v => ?_) fun _ _ => rfl
    exact .bind (getI_fac k v) (fun b => .pure _ fun _ _ => rfl) fun _ _ => rfl
  | b2s x =>
    refine .bind (ev_fac st x) (fun v => ?_) fun _ _ => rfl
    exact .bind (behind_fac 1 false false st.heap v) (fun l => .when (.pure _ fun _ _ => rfl) fun _ _ => rfl) fun _ _ => rfl
  | s2b x => cases hrd
  | mkSl sz agg bytes z len cap => cases hrd
  | slice k x lo hi mx =>
    refine .bind (ev_fac st x) (fun x => ?_) fun _ _ => rfl
    refine .bind (evO_fac st lo) (fun lo => ?_) fun _ _ => rfl
    refine .bind (evO_fac st hi) (fun hi => ?_) fun _ _ => rfl
    refine .bind (evO_fac st mx) (fun mx => ?_) fun _ _ => rfl
    cases mx with
    | some m =>
      cases k with
      | sl sz agg =>
        cases lo with
        | some _ => exact .fail fun _ _ => rfl
        | none =>
          refine .bind (optI_fac hi 1) (fun h => ?_) fun _ _ => rfl
          refine .bind (getN_fac m) (fun m => ?_) fun _ _ => rfl
          refine .when (F' := fun γ (K : LV × St → Option γ) => match x with
            | .nils => K (.nils, st)
            | .fz e => when e.isSl (K (.nils, st))
            | _ => none) ?_ fun _ _ => rfl
          cases x with
          | nils => exact .pure _ fun _ _ => rfl
          | fz e => exact .when (.pure _ fun _ _ => rfl) fun _ _ => rfl
          | _ => exact .fail fun _ _ => rfl
      | _ => exact .fail fun _ _ => rfl
    | none =>
      cases k with
      | str =>
        refine .bind (getS_fac x) (fun s => ?_) fun _ _ => rfl
        refine .bind (optI_fac hi s.size) (fun h => ?_) fun _ _ => rfl
        refine .bind (optI_fac lo 0) (fun l => ?_) fun _ _ => rfl
        exact .when (.when (.pure _ fun _ _ => rfl) fun _ _ => rfl) fun _ _ => rfl
      | arr len sz agg => exact .fail fun _ _ => rfl
      | sl sz agg =>
        cases x with
        | nils =>
          refine .bind (optI_fac hi 0) (fun h => ?_) fun _ _ => rfl
          refine .bind (optI_fac lo 0) (fun l => ?_) fun _ _ => rfl
          exact .when (.pure _ fun _ _ => rfl) fun _ _ => rfl
        | fz e =>
          refine .when (F' := fun γ (K : LV × St → Option γ) => optI hi e.toSl.length fun h => optI lo 0 fun l =>
            when (decide (0 ≤ h) && decide (h ≤ e.toSl.length)) (when (decide (0 ≤ l) && decide (l ≤ h)) (K (.fz (.sl ((e.toSl.take h.toNat).drop l.toNat)), st)))) ?_ fun _ _ => rfl
          refine .bind (optI_fac hi e.toSl.length) (fun h => ?_) fun _ _ => rfl
          refine .bind (optI_fac lo 0) (fun l => ?_) fun _ _ => rfl
          exact .when (.when (.pure _ fun _ _ => rfl) fun _ _ => rfl) fun _ _ => rfl
        | rw k =>
          refine .bind (H := fun p γ (K : LV × St → Option γ) => when (sz == p.1 && agg == p.2.1) (optI hi p.2.2.length fun h => optI lo 0 fun l =>
            when (decide (0 ≤ h) && decide (h ≤ p.2.2.length)) (when (decide (0 ≤ l) && decide (l ≤ h)) (K (.loc k l.toNat (h.toNat - l.toNat), st))))) (rowLen_fac (aget k st.heap)) (fun p => ?_) fun _ _ => rfl
          refine .when (F' := fun γ (K : LV × St → Option γ) => optI hi p.2.2.length fun h => optI lo 0 fun l =>
            when (decide (0 ≤ h) && decide (h ≤ p.2.2.length)) (when (decide (0 ≤ l) && decide (l ≤ h)) (K (.loc k l.toNat (h.toNat - l.toNat), st)))) ?_ fun _ _ => rfl
          refine .bind (optI_fac hi p.2.2.length) (fun h => ?_) fun _ _ => rfl
          refine .bind (optI_fac lo 0) (fun l => ?_) fun _ _ => rfl
          exact .when (.when (.pure _ fun _ _ => rfl) fun _ _ => rfl) fun _ _ => rfl
        | loc k off len =>
          refine .bind (H := fun p γ (K : LV × St → Option γ) => when (sz == p.1 && agg == p.2.1) (optI hi len fun h => optI lo 0 fun l =>
            when (decide (0 ≤ h) && decide (h ≤ len)) (when (decide (0 ≤ l) && decide (l ≤ h)) (K (.loc k (off + l.toNat) (h.toNat - l.toNat), st))))) (rowLen_fac (aget k st.heap)) (fun p => ?_) fun _ _ => rfl
          refine .when (F' := fun γ (K : LV × St → Option γ) => optI hi len fun h => optI lo 0 fun l =>
            when (decide (0 ≤ h) && decide (h ≤ len)) (when (decide (0 ≤ l) && decide (l ≤ h)) (K (.loc k (off + l.toNat) (h.toNat - l.toNat), st)))) ?_ fun _ _ => rfl
          refine .bind (optI_fac hi len) (fun h => ?_) fun _ _ => rfl
          refine .bind (optI_fac lo 0) (fun l => ?_) fun _ _ => rfl
          exact .when (.when (.pure _ fun _ _ => rfl) fun _ _ => rfl) fun _ _ => rfl
        | _ => exact .fail fun _ _ => rfl
  | fadr off x =>
    refine .bind (ev_fac st x) (fun v => ?_) fun _ _ => rfl
    cases v with
    | fz p => exact .when (.pure _ fun _ _ => rfl) fun _ _ => rfl
    | ptr k i off => exact .when (.pure _ fun _ _ => rfl) fun _ _ => rfl
    | _ => exact .fail fun _ _ => rfl
  | field m n agg off x =>
    refine .bind (ev_fac st x) (fun v => ?_) fun _ _ => rfl
    exact .bind (part_fac m n agg off v) (fun v => .pure v fun _ _ => rfl) fun _ _ => rfl
  | iadr k x i =>
    refine .bind (ev_fac st x) (fun x => ?_) fun _ _ => rfl
    refine .bind (ev_fac st i) (fun i => ?_) fun _ _ => rfl
    refine .bind (getN_fac i) (fun i => ?_) fun _ _ => rfl
    cases k with
    | str => exact .fail fun _ _ => rfl
    | arr len sz agg =>
      refine .when (F' := fun γ (K : LV × St → Option γ) => match x with
        | .fz p => when p.isPt (K (.fz (.pt p.ptN p.ptAgg p.ptE (p.ptOff + i.toNat * sz)), st))
        | .ptr key j o => when (alive (aget key st.heap)) (K (.ptr key j (o + i.toNat * sz), st))
        | _ => none) ?_ fun _ _ => rfl
      cases x with
      | fz p => exact .when (.pure _ fun _ _ => rfl) fun _ _ => rfl
      | ptr k i off => exact .when (.pure _ fun _ _ => rfl) fun _ _ => rfl
      | _ => exact .fail fun _ _ => rfl
    | sl sz agg =>
      cases x with
      | fz e => exact .when (.when (.when (.pure _ fun _ _ => rfl) fun _ _ => rfl) fun _ _ => rfl) fun _ _ => rfl
      | rw k => exact .bind (H := fun p γ (K : LV × St → Option γ) => when (sz == p.1 && agg == p.2.1) (when (decide (0 ≤ i) && decide (i < p.2.2.length)) (K (.ptr k i.toNat 0, st)))) (rowLen_fac (aget k st.heap)) (fun p => .when (.when (.pure _ fun _ _ => rfl) fun _ _ => rfl) fun _ _ => rfl) fun _ _ => rfl
      | loc k off len => exact .bind (H := fun p γ (K : LV × St → Option γ) => when (sz == p.1 && agg == p.2.1) (when (decide (0 ≤ i) && decide (i < len)) (K (.ptr k (off + i.toNat) 0, st)))) (rowLen_fac (aget k st.heap)) (fun p => .when (.when (.pure _ fun _ _ => rfl) fun _ _ => rfl) fun _ _ => rfl) fun _ _ => rfl
      | _ => exact .fail fun _ _ => rfl
  | index k x i =>
    refine .bind (ev_fac st x) (fun x => ?_) fun _ _ => rfl
    refine .bind (ev_fac st i) (fun i => ?_) fun _ _ => rfl
    refine .bind (getN_fac i) (fun i => ?_) fun _ _ => rfl
    cases k with
    | str =>
      refine .bind (getS_fac x) (fun s => ?_) fun _ _ => rfl
      exact .when (.pure _ fun _ _ => rfl) fun _ _ => rfl
    | arr len sz agg => exact .when (.bind (part_fac (len * sz) sz agg (i.toNat * sz) x) (fun v => .pure v fun _ _ => rfl) fun _ _ => rfl) fun _ _ => rfl
    | sl sz agg => exact .fail fun _ _ => rfl
  | extract x i =>
    refine .bind (ev_fac st x) (fun v => ?_) fun _ _ => rfl
    cases v with
    | tup vs =>
      simp only []
      cases vs[i]? with
      | some v => exact .pure v fun _ _ => rfl
      | none => exact .fail fun _ _ => rfl
    | _ => exact .fail fun _ _ => rfl
  | call f args outs => cases hrd
  | len k x =>
    refine .bind (ev_fac st x) (fun x => ?_) fun _ _ => rfl
    cases k with
    | str => exact .bind (getS_fac x) (fun s => .pure _ fun _ _ => rfl) fun _ _ => rfl
    | arr len sz agg => exact .pure _ fun _ _ => rfl
    | sl sz agg =>
      cases x with
      | nils => exact .pure _ fun _ _ => rfl
      | fz e => exact .when (.pure _ fun _ _ => rfl) fun _ _ => rfl
      | rw k => exact .bind (H := fun p γ (K : LV × St → Option γ) => when (sz == p.1 && agg == p.2.1) (K (.fz (.int .i64 p.2.2.length), st))) (rowLen_fac (aget k st.heap)) (fun p => .when (.pure _ fun _ _ => rfl) fun _ _ => rfl) fun _ _ => rfl
      | loc k off len => exact .bind (H := fun _ γ (K : LV × St → Option γ) => K (.fz (.int .i64 len), st)) (rowLen_fac (aget k st.heap)) (fun p => .pure _ fun _ _ => rfl) fun _ _ => rfl
      | _ => exact .fail fun _ _ => rfl
  | append sz agg bytes str x y => cases hrd
  | mkFn f caps => exact .bind (evs_fac st caps) (fun vs => .pure _ fun _ _ => rfl) fun _ _ => rfl
  | callV x args => cases hrd
  | slArr len sz x => cases hrd
  | slTail len x i => cases hrd
end Go.Ab
end
section
namespace Go.Ab
section
variable {P : Program} {W0 W W' : World} {S0 M S S' : Nat → Prop} {ρ ρ' : Nat → Place} {h h' : Heap} {st : St} {a : Act} {N : Nat} {pins : List Nat} {pl : Nat → Place × (Nat × Bool)} {R : Nat → List TV → Option Ans} {modes : Nat → List Mode × List Mode} {β : Type} {r : β} {T : List Nat}
theorem namesIns_get : ∀ {cs : List LV} {j : Nat} {e : LV}, namesIns T cs = true → cs[j]? = some e → namesIn T e = true
  | c :: cs, 0, e, h1, h2 => by simp only [namesIns, Bool.and_eq_true] at h1; simp at h2; subst h2; exact h1.1
  | c :: cs, j + 1, e, h1, h2 => by simp only [namesIns, Bool.and_eq_true] at h1; exact namesIns_get h1.2 (by simpa using h2)
  | [], j, e, h1, h2 => by simp at h2
theorem RepL.names (hk : ∀ k ∈ T, aget k h' = aget k h) (hρ : ∀ k ∈ T, ρ' k = ρ k) {v : LV} {x : Value} (R : RepL W S ρ h v x) : namesIn T v = true → RepL W S ρ' h' v x := by
  induction R with
  | fz r => exact fun _ => .fz r
  | nils a => exact fun _ => .nils a
  | rw key v b hb hv h1 =>
    intro hn
    have hm : key ∈ T := by simpa [namesIn] using hn
    exact .rw key v b ((hk key hm).trans hb) (by rw [hρ key hm]; exact hv) h1
  | loc key off len v b hb hv h1 hl =>
    intro hn
    have hm : key ∈ T := by simpa [namesIn] using hn
    exact .loc key off len v b ((hk key hm).trans hb) (by rw [hρ key hm]; exact hv) h1 hl
  | ptr key i off v b hb hv hu h1 =>
    intro hn
    have hm : key ∈ T := by simpa [namesIn] using hn
    exact .ptr key i off v b ((hk key hm).trans hb) (by rw [hρ key hm]; exact hv) (by rw [hρ key hm]; exact hu) h1
  | ag cs vs hl h1 _ ih => exact fun hn => .ag cs vs hl h1 (fun j e v he hv => ih j e v he hv (namesIns_get (by simpa [namesIn] using hn) he))
  | tup cs vs hl _ ih => exact fun hn => .tup cs vs hl (fun j e v he hv => ih j e v he hv (namesIns_get (by simpa [namesIn] using hn) he))
  | clo g cs vs hl _ ih => exact fun hn => .clo g cs vs hl (fun j e v he hv => ih j e v he hv (namesIns_get (by simpa [namesIn] using hn) he))
theorem pickA_get {α : Type} {l : List (Nat × α)} {k : Nat} : ∀ {ks : List Nat}, aget k (pickA l ks) = if k ∈ ks then aget k l else none
  | [] => by simp [pickA, aget]
  | i :: ks => by
    simp only [pickA]
    by_cases hi : i = k
    · subst hi
      cases hg : aget i l with
      | some v => simp [aget]
      | none => simp only []; rw [pickA_get]; simp [hg]
    · have hne : (i == k) = false := by simpa using hi
      have hki : ¬ k = i := fun e => hi e.symm
      have hmem : (k ∈ i :: ks) ↔ k ∈ ks := by simp [hki]
      cases hg : aget i l with
      | some v => simp only [aget, hne, cond_false]; rw [pickA_get]; simp only [hmem]
      | none => simp only []; rw [pickA_get]; simp only [hmem]
theorem mergeH_get {h1 : Heap} {k : Nat} : ∀ {T : List Nat} {h : Heap}, aget k (mergeH h1 T h) = if k ∈ T then (match aget k h1 with | some b => some b | none => aget k h) else aget k h
  | [], h => by simp [mergeH]
  | i :: T, h => by
    simp only [mergeH]
    by_cases hi : i = k
    · subst hi
      cases hg : aget i h1 with
      | some b =>
        simp only [List.mem_cons, true_or, if_true]
        rw [mergeH_get, hg]
        by_cases hm : i ∈ T
        · simp [hm]
        · rw [if_neg hm, aget_aset, if_pos rfl]
      | none =>
        simp only [List.mem_cons, true_or, if_true]
        rw [mergeH_get, hg]; simp
    · have hki : ¬ k = i := fun e => hi e.symm
      have hmem : (k ∈ i :: T) ↔ k ∈ T := by simp [hki]
      cases hg : aget i h1 with
      | some b => simp only []; rw [mergeH_get, aget_aset, if_neg hi]; simp only [hmem]
      | none => simp only []; rw [mergeH_get]; simp only [hmem]
theorem aget_mem {α : Type} {k : Nat} {v : α} : ∀ {l : List (Nat × α)}, aget k l = some v → (k, v) ∈ l
  | (i, u) :: l, e => by
    simp only [aget] at e
    by_cases h : i = k
    · subst h; rw [show (i == i) = true by simp] at e; cases e; exact List.mem_cons_self
    · rw [show (i == k) = false by simpa using h] at e; exact List.mem_cons_of_mem _ (aget_mem e)
theorem namesH_get {k n : Nat} {agg : Bool} {v : LV} (hn : namesH T h = true) (e : aget k h = some (.var n agg v)) : namesIn T v = true := by
  have := List.all_eq_true.1 hn _ (aget_mem e)
  exact this
theorem frame_good {o : Oper} {i : AI} {key : Nat} {ts : List Nat} {v : LV} {s : St} {hG : Heap} (hc : compI P modes o.op = some i) (hR : OkB P R W0 S0 M) (I : HInv W0 S0 M W S ρ st.heap) (E : EInv W S ρ st.heap st.env a)
    (hn1 : namesH T (restrict ts T st).heap = true) (hn2 : ((restrict ts T st).env.all fun p => namesIn T p.2) = true) (e : stepI R key (restrict ts T st) i (fun v s => some (v, s)) = some (v, s)) (hn3 : namesIn T v = true) (hn4 : namesH T s.heap = true)
    (hG1 : ∀ k, aget k hG = if k ∈ T then (match aget k s.heap with | some b => some b | none => aget k st.heap) else aget k st.heap) :
    OpRes P o a W fun x W' => ∃ S' ρ', HInv W0 S0 M W' S' ρ' hG ∧ Later W S ρ st.heap W' S' ρ' hG ∧ RepL W' S' ρ' hG v x := by
  have hget : ∀ k, aget k (restrict ts T st).heap = if k ∈ T then aget k st.heap else none := fun k => pickA_get
  have hgetT : ∀ k ∈ T, aget k (restrict ts T st).heap = aget k st.heap := fun k hk => by rw [hget, if_pos hk]
  have hin : ∀ k b, aget k (restrict ts T st).heap = some b → k ∈ T ∧ aget k st.heap = some b := fun k b hb => by
    rw [hget] at hb
    by_cases hk : k ∈ T
    · rw [if_pos hk] at hb; exact ⟨hk, hb⟩
    · rw [if_neg hk] at hb; cases hb
  let Mx : Nat → Prop := fun b => ∃ k c, aget k (restrict ts T st).heap = some c ∧ c.owned = true ∧ (ρ k).B = b
  have I0 : HInv W S Mx W S ρ (restrict ts T st).heap := by
    refine ⟨⟨rfl, rfl, rfl, Nat.le_refl _, fun _ _ _ => rfl⟩, fun _ h => h, fun _ h => .inl h, I.lt, fun k b hb => ?_, fun k b hb ho => .inr ⟨k, b, hb, ho, rfl⟩, fun k k' b b' hb hb' => I.dis k k' b b' (hin k b hb).2 (hin k' b' hb').2⟩
    have r := I.blk k b (hin k b hb).2
    cases b with
    | dead => trivial
    | row sz agg xs => exact r
    | ice sz agg xs => exact r
    | itr s pos => exact r
    | icv n agg e => exact r
    | var n agg u =>
      obtain ⟨r1, r2, ⟨lt, fits, g, c1, c2, c3⟩, r4⟩ := r
      exact ⟨r1, r2, ⟨lt, fits, g, c1, c2, c3.names hgetT (fun _ _ => rfl) (namesH_get hn1 hb)⟩, r4⟩
  have E0 : EInv W S ρ (restrict ts T st).heap (restrict ts T st).env a := fun t u hu => by
    have hu' : aget t (pickA st.env ts) = some u := hu
    rw [pickA_get] at hu'
    by_cases ht : t ∈ ts
    · rw [if_pos ht] at hu'
      obtain ⟨x, hx, Rx⟩ := E t u hu'
      have := List.all_eq_true.1 hn2 _ (aget_mem hu)
      exact ⟨x, hx, Rx.names hgetT (fun _ _ => rfl) this⟩
    · rw [if_neg ht] at hu'; cases hu'
  obtain ⟨v', s', hk, _, hres⟩ := comp_good hc ⟨hR.1, ⟨I.lt, (fun b hs ⟨k, c, hc', ho, hb⟩ => by
    subst hb
    have r := I.blk k c (hin k c hc').2
    cases c with
    | row sz agg xs => exact r.1 hs
    | var n agg u => exact r.1 hs
    | itr s pos => exact r.1 hs
    | ice sz agg xs => cases ho
    | icv n agg e => cases ho
    | dead => cases ho), hR.2.now I⟩⟩ I0 E0 e
  cases hk
  unfold OpRes at hres ⊢
  have lift : ∀ (x : Value) (W' : World), (∃ S' ρ', HInv W S Mx W' S' ρ' s.heap ∧ Later W S ρ (restrict ts T st).heap W' S' ρ' s.heap ∧ RepL W' S' ρ' s.heap v x) → ∃ S' ρ', HInv W0 S0 M W' S' ρ' hG ∧ Later W S ρ st.heap W' S' ρ' hG ∧ RepL W' S' ρ' hG v x := by
    intro x W' ⟨S', ρ', I', L', Rv⟩
    have notS : ∀ b, Mx b → ¬ S b := fun b ⟨k, c, hc, ho, hb⟩ hs => by
      subst hb
      have r := I.blk k c (hin k c hc).2
      cases c with
      | row sz agg xs => exact r.1 hs
      | var n agg u => exact r.1 hs
      | itr s pos => exact r.1 hs
      | ice sz agg xs => cases ho
      | icv n agg e => cases ho
      | dead => cases ho
    have mxM : ∀ b, Mx b → W0.heap.size ≤ b ∨ M b := fun b ⟨k, c, hc, ho, hb⟩ => by subst hb; exact I.own k c (hin k c hc).2 ho
    have mxLt : ∀ b, Mx b → b < W.heap.size := fun b ⟨k, c, hc, ho, hb⟩ => by
      subst hb; exact (I.blk k c (hin k c hc).2).lt (by intro e; subst e; cases ho)
    have pk : Poke W Mx W' := ⟨I'.ext.os, I'.ext.tape, I'.ext.output, I'.ext.size, I'.ext.block⟩
    let ρG : Nat → Place := fun k => if k ∈ T then ρ' k else ρ k
    have gT : ∀ k ∈ T, aget k hG = aget k s.heap := fun k hk => by
      rw [hG1, if_pos hk]
      cases hg : aget k s.heap with
      | some b => rfl
      | none =>
        cases hst : aget k st.heap with
        | none => rfl
        | some b =>
          obtain ⟨_, b', hb', _⟩ := L'.dom k b (by rw [hgetT k hk]; exact hst)
          rw [hg] at hb'; cases hb'
    have gO : ∀ k, k ∉ T → aget k hG = aget k st.heap := fun k hk => by rw [hG1, if_neg hk]
    have ρT : ∀ k ∈ T, ρG k = ρ' k := fun k hk => by simp only [ρG]; rw [if_pos hk]
    have ρO : ∀ k, k ∉ T → ρG k = ρ k := fun k hk => by simp only [ρG]; rw [if_neg hk]
    have LG : Later W S ρ st.heap W' S' ρG hG := by
      refine ⟨fun b hb => I'.sub b hb, fun b hb => I'.ext.block b (I.lt b hb) (fun hm => notS b hm hb), fun k b hb => ?_⟩
      by_cases hk : k ∈ T
      · obtain ⟨h1, b', hb', hle⟩ := L'.dom k b (by rw [hgetT k hk]; exact hb)
        exact ⟨(ρT k hk).trans h1, b', (gT k hk).trans hb', hle⟩
      · exact ⟨ρO k hk, b, (gO k hk).trans hb, b.le_refl⟩
    -- a block outside
    have outB : ∀ k c, k ∉ T → aget k st.heap = some c → c.owned = true → ¬ Mx (ρ k).B := fun k c hk hc ho ⟨k', c', hc', ho', he⟩ => by
      obtain ⟨hkT, hst⟩ := hin k' c' hc'
      exact I.dis k' k c' c hst hc ho' ho (fun e => hk (e ▸ hkT)) he
    refine ⟨S', ρG, ⟨I.ext.poke pk mxM, fun b hb => I'.sub b (I.sub b hb), fun b hb => ?_, I'.lt, fun k b hb => ?_, fun k b hb ho => ?_, fun k k' b b' hb hb' ho ho' hne => ?_⟩, LG, ?_⟩
    · rcases I'.sup b hb with h1 | h1 | h1
      · exact I.sup b h1
      · exact .inr (.inl (Nat.le_trans I.ext.size h1))
      · exact .inr (mxM b h1)
    · by_cases hk : k ∈ T
      · rw [gT k hk] at hb
        rw [ρT k hk]
        have r := I'.blk k b hb
        cases b with
        | dead => trivial
        | row sz agg xs => exact r
        | ice sz agg xs => exact r
        | itr s pos => exact r
        | icv n agg e => exact r
        | var n agg u =>
          obtain ⟨r1, r2, ⟨lt, fits, g, c1, c2, c3⟩, r4⟩ := r
          exact ⟨r1, r2, ⟨lt, fits, g, c1, c2, c3.names gT ρT (namesH_get hn4 hb)⟩, r4⟩
      · rw [gO k hk] at hb
        rw [ρO k hk]
        have r := I.blk k b hb
        have keep : b.owned = true → W'.heap[(ρ k).B]? = W.heap[(ρ k).B]? := fun ho => pk.block _ (r.lt (by intro e; subst e; cases ho)) (outB k b hk hb ho)
        have keepS : b.owned = true → ¬ S (ρ k).B → ¬ S' (ρ k).B := fun ho hn hs => by
          have hl := r.lt (by intro e; subst e; cases ho)
          rcases I'.sup _ hs with h1 | h1 | h1
          · exact hn h1
          · omega
          · exact outB k b hk hb ho h1
        cases b with
        | dead => trivial
        | row sz agg xs => exact r.later LG (keep rfl) pk.size (fun hn _ => keepS rfl hn)
        | var n agg u => exact r.later LG (keep rfl) pk.size (fun hn _ => keepS rfl hn)
        | itr s pos => exact r.later LG (keep rfl) pk.size (fun hn _ => keepS rfl hn)
        | ice sz agg xs => exact r.later LG (LG.w _ r.1) pk.size (fun _ ho => by cases ho)
        | icv n agg e => exact r.later LG (LG.w _ r.1) pk.size (fun _ ho => by cases ho)
    · by_cases hk : k ∈ T
      · rw [gT k hk] at hb; rw [ρT k hk]
        rcases I'.own k b hb ho with h1 | h1
        · exact .inl (Nat.le_trans I.ext.size h1)
        · exact mxM _ h1
      · rw [gO k hk] at hb; rw [ρO k hk]
        exact I.own k b hb ho
    · have cross : ∀ k k' b b', k ∈ T → k' ∉ T → aget k s.heap = some b → aget k' st.heap = some b' → b.owned = true → b'.owned = true → (ρ' k).B ≠ (ρ k').B := fun k k' b b' hk hk' hb hb' ho ho' he => by
        have hl := (I.blk k' b' hb').lt (by intro e; subst e; cases ho')
        rcases I'.own k b hb ho with h1 | h1
        · omega
        · exact outB k' b' hk' hb' ho' (he ▸ h1)
      by_cases hk : k ∈ T
      · rw [gT k hk] at hb; rw [ρT k hk]
        by_cases hk' : k' ∈ T
        · rw [gT k' hk'] at hb'; rw [ρT k' hk']
          exact I'.dis k k' b b' hb hb' ho ho' hne
        · rw [gO k' hk'] at hb'; rw [ρO k' hk']
          exact cross k k' b b' hk hk' hb hb' ho ho'
      · rw [gO k hk] at hb; rw [ρO k hk]
        by_cases hk' : k' ∈ T
        · rw [gT k' hk'] at hb'; rw [ρT k' hk']
          exact fun e => cross k' k b' b hk' hk hb' hb ho' ho e.symm
        · rw [gO k' hk'] at hb'; rw [ρO k' hk']
          exact I.dis k k' b b' hb hb' ho ho' hne
    · exact Rv.names gT ρT hn3
  generalize (execOp a.eval o).run P W = res at hres ⊢
  cases res with
  | halt x w => exact hres
  | ok nx w =>
    cases nx with
    | value x => exact lift x w hres
    | skip => exact lift undef w hres
    | enter f args =>
      refine Calls.mono hres fun e w'' he => ?_
      cases e with
      | returned x => exact lift x w'' he
      | panicked c => exact he
      | outgrown => exact he
    | _ => exact hres
end
end Go.Ab
end
section
namespace Go.Ab
def gdec (o : AOper) (env : List (Nat × LV)) : Option Bool :=
  match o.guard with
  | none => some true
  | some (t, want) => match aget t env with
    | some (.tup []) => some false
    | some v => match v.isBool with | true => some (v.toBool == want) | false => none
    | none => none
def gtmps (o : AOper) : List Nat := match o.guard with | none => [] | some (t, _) => [t]
inductive DStep (R : Nat → List TV → Option Ans) (o : AOper) (st st' : St) (ti : TI) : Prop
  | no (hg : gdec o st.env = some false) (hs : st' = putD st o.dst (.tup [])) (ht : ti = ⟨gtmps o, dstL o.dst, [], false⟩)
  | go (T : List Nat) (v : LV) (s : St) (hg : gdec o st.env = some true) (h1 : namesH T (restrict o.ins.tmps T st).heap = true) (h2 : ((restrict o.ins.tmps T st).env.all fun p => namesIn T p.2) = true)
      (e : stepI R (4 * o.dst.getD 0) (restrict o.ins.tmps T st) o.ins (fun v s => some (v, s)) = some (v, s)) (h3 : namesIn T v = true) (h4 : namesH T s.heap = true)
      (hs : st' = putD { env := st.env, heap := match o.ins.reads with | true => st.heap | false => mergeH s.heap T st.heap } o.dst v) (ht : ti = ⟨o.ins.tmps ++ gtmps o, dstL o.dst, T, !o.ins.reads⟩)
theorem drawO_rec {R : Nat → List TV → Option Ans} {β : Type} {r : β} {o : AOper} {st : St} {K : St → TI → Option β} (e : drawO R o st K = some r) : ∃ st' ti, K st' ti = some r ∧ DStep R o st st' ti := by
  have goC : ∀ g, gdec o st.env = some true → gtmps o = g → (when (namesH (touch st o.ins.tmps o.dst) (restrict o.ins.tmps (touch st o.ins.tmps o.dst) st).heap && (restrict o.ins.tmps (touch st o.ins.tmps o.dst) st).env.all fun p => namesIn (touch st o.ins.tmps o.dst) p.2) (stepI R (4 * o.dst.getD 0) (restrict o.ins.tmps (touch st o.ins.tmps o.dst) st) o.ins fun v s =>
      when (namesIn (touch st o.ins.tmps o.dst) v && namesH (touch st o.ins.tmps o.dst) s.heap) (K (putD { env := st.env, heap := match o.ins.reads with | true => st.heap | false => mergeH s.heap (touch st o.ins.tmps o.dst) st.heap } o.dst v) ⟨o.ins.tmps ++ g, dstL o.dst, touch st o.ins.tmps o.dst, !o.ins.reads⟩))) = some r → ∃ st' ti, K st' ti = some r ∧ DStep R o st st' ti := fun g hg hgt e => by
    obtain ⟨hb, e⟩ := when_some e
    simp only [Bool.and_eq_true] at hb
    obtain ⟨⟨v, s⟩, e, f⟩ := (stepI_fac R (4 * o.dst.getD 0) (restrict o.ins.tmps (touch st o.ins.tmps o.dst) st) o.ins).out β (fun p => when (namesIn (touch st o.ins.tmps o.dst) p.1 && namesH (touch st o.ins.tmps o.dst) p.2.heap) (K (putD { env := st.env, heap := match o.ins.reads with | true => st.heap | false => mergeH p.2.heap (touch st o.ins.tmps o.dst) st.heap } o.dst p.1) ⟨o.ins.tmps ++ g, dstL o.dst, touch st o.ins.tmps o.dst, !o.ins.reads⟩)) r e
    obtain ⟨hb2, e⟩ := when_some e
    simp only [Bool.and_eq_true] at hb2
    exact ⟨_, _, e, .go _ v s hg hb.1 hb.2 (f _ (fun p => some p)) hb2.1 hb2.2 rfl (by rw [hgt])⟩
  unfold drawO at e
  simp only at e
  cases hg : o.guard with
  | none =>
    rw [hg] at e
    exact goC [] (by simp [gdec, hg]) (by simp [gtmps, hg]) e
  | some p =>
    obtain ⟨t, want⟩ := p
    rw [hg] at e
    have hgt : gtmps o = [t] := by simp [gtmps, hg]
    have noC : gdec o st.env = some false → K (putD st o.dst (.tup [])) ⟨[t], dstL o.dst, [], false⟩ = some r → ∃ st' ti, K st' ti = some r ∧ DStep R o st st' ti := fun h e => ⟨_, _, e, .no h rfl (by rw [hgt])⟩
    simp only at e
    split at e
    · rename_i htv
      exact noC (by simp [gdec, hg, htv]) e
    · rename_i v hnt htv
      obtain ⟨hb, e⟩ := when_some e
      have hd : gdec o st.env = some (v.toBool == want) := by
        cases v with
        | fz f => simp only [gdec, hg, htv]; rw [hb]
        | _ => simp [LV.isBool] at hb
      cases want <;> cases hv : v.toBool <;> rw [hv] at e hd <;> simp only at e
      · exact goC [t] (by rw [hd]; rfl) hgt e
      · exact noC (by rw [hd]; rfl) e
      · exact noC (by rw [hd]; rfl) e
      · exact goC [t] (by rw [hd]; rfl) hgt e
    · cases e
def Agree (ti : TI) (st s : St) : Prop := (∀ t ∈ ti.rt, aget t s.env = aget t st.env) ∧ ∀ k ∈ ti.T, aget k s.heap = aget k st.heap
def Sees (ti : TI) (st' s s' : St) : Prop := (∀ t, aget t s'.env = if t ∈ ti.wt then aget t st'.env else aget t s.env) ∧ ∀ k, aget k s'.heap = if ti.wr = true ∧ k ∈ ti.T then aget k st'.heap else aget k s.heap
theorem pickA_congr {α : Type} {l l' : List (Nat × α)} : ∀ {ks : List Nat}, (∀ k ∈ ks, aget k l = aget k l') → pickA l ks = pickA l' ks
  | [], _ => rfl
  | k :: ks, h => by
    simp only [pickA]
    rw [h k List.mem_cons_self, pickA_congr (fun j hj => h j (List.mem_cons_of_mem _ hj))]
theorem putD_env (st : St) (d : Option Nat) (v : LV) (t : Nat) : aget t (putD st d v).env = if t ∈ dstL d then some v else aget t st.env := by
  cases d with
  | none => simp [putD, dstL]
  | some d =>
    simp only [putD, St.put, dstL, List.mem_singleton, aget_aset]
    by_cases h : d = t
    · simp [h]
    · rw [if_neg h, if_neg (fun e => h e.symm)]
theorem putD_heap (st : St) (d : Option Nat) (v : LV) : (putD st d v).heap = st.heap := by cases d <;> rfl
theorem gdec_congr {o : AOper} {env env' : List (Nat × LV)} (h : ∀ t ∈ gtmps o, aget t env' = aget t env) : gdec o env' = gdec o env := by
  unfold gdec gtmps at *
  cases hg : o.guard with
  | none => rfl
  | some p =>
    obtain ⟨t, want⟩ := p
    rw [hg] at h
    simp only at h ⊢
    rw [h t (by simp)]
section
variable {P : Program} {W0 W W' : World} {S0 M S S' : Nat → Prop} {ρ ρ' : Nat → Place} {st : St} {a : Act} {N : Nat} {pins : List Nat} {pl : Nat → Place × (Nat × Bool)} {R : Nat → List TV → Option Ans} {modes : Nat → List Mode × List Mode} {β : Type} {r : β}
theorem dstep_ok {ops : Array Oper} {o : Oper} {ao : AOper} {Q : Exit → Act → World → Prop} {pre post s : St} {ti : TI} (hR : OkB P R W0 S0 M) (hc : compO P modes N ops o = some ao) (D : DStep R ao pre post ti) (A : Agree ti pre s) (J : Inv W0 S0 M N pins pl W S ρ s a) {next : Act → World → Prop}
    (hn : ∀ s' W' S' ρ' a', Sees ti post s s' → Inv W0 S0 M N pins pl W' S' ρ' s' a' → next a' W') :
    if Region.wanted o (yielded ops a.tmps) then o.wp P a W next Q ∨ (o.asks P a W ∧ LetsOut Q) else next (a.put o.dst undef) W := by
  unfold compO at hc
  split at hc
  · rename_i i hi hd
    have hao : ao.ins = i ∧ ao.dst = o.dst ∧ (∀ b, gdec ao s.env = some b → Region.wanted o (yielded ops a.tmps) = b) := by
      split at hc
      · rename_i hg
        cases hc
        exact ⟨rfl, rfl, fun b hb => by simp only [gdec] at hb; cases hb; simp [Region.wanted, hg]⟩
      · rename_i j want hg
        split at hc
        · rename_i t ht
          cases hc
          refine ⟨rfl, rfl, fun b hb => ?_⟩
          simp only [gdec] at hb
          have hy : ∀ v, yielded ops a.tmps j = v ↔ (match a.tmps[t]? with | some (.bool b) => some b | _ => none) = v := fun v => by
            unfold yielded; rw [ht]; rfl
          split at hb
          · rename_i htv
            cases hb
            obtain ⟨x, hx, Rx⟩ := J.E t _ htv
            cases Rx with
            | tup _ vs hl hh =>
            have : yielded ops a.tmps j = none := (hy _).2 (by rw [hx])
            simp [Region.wanted, hg, this]
          · rename_i v hnt htv
            obtain ⟨x, hx, Rx⟩ := J.E t _ htv
            split at hb
            · rename_i hbo
              cases hb
              obtain ⟨b, rfl, e⟩ := getB_ok (K := fun b => some b) (r := v.toBool) Rx (by simp [getB, when, hbo])
              cases e
              have hyb : yielded ops a.tmps j = some v.toBool := (hy _).2 (by rw [hx])
              simp [Region.wanted, hg, hyb]
            · cases hb
          · cases hb
        · cases hc
    obtain ⟨e1, e2, e3⟩ := hao
    cases D with
    | no hg hs ht =>
      subst hs; subst ht
      have hg' : gdec ao s.env = some false := by rw [gdec_congr (env := pre.env) (fun t ht => A.1 t ht)]; exact hg
      rw [e3 _ hg', if_neg (by decide)]
      refine hn (putD s ao.dst (.tup [])) W S ρ _ ⟨fun t => ?_, fun k => ?_⟩ (by rw [e2]; exact J.put hd rfl J.H (Later.refl _ _ _ _) (.tup [] #[] rfl (fun j e v he _ => by simp at he)))
      · rw [putD_env, putD_env]; by_cases h : t ∈ dstL ao.dst <;> simp [h]
      · rw [putD_heap]; simp
    | go T v s1 hg h1 h2 e h3 h4 hs ht =>
      subst hs; subst ht
      have hg' : gdec ao s.env = some true := by rw [gdec_congr (env := pre.env) (fun t ht => A.1 t (List.mem_append_right _ ht))]; exact hg
      rw [e3 _ hg', if_pos rfl]
      have hres : restrict ao.ins.tmps T s = restrict ao.ins.tmps T pre := by
        unfold restrict
        rw [pickA_congr (fun t ht => A.1 t (List.mem_append_left _ ht)), pickA_congr (fun k hk => A.2 k hk)]
      rw [← hres] at h1 h2 e
      have hreads : ao.ins.reads = true → s1 = restrict ao.ins.tmps T s := fun hr => by
        obtain ⟨v', hv'⟩ := (stepI_reads R (4 * ao.dst.getD 0) (restrict ao.ins.tmps T s) ao.ins hr).out (LV × St) (fun p => some p) (v, s1) e
        cases hv'; rfl
      have hG : ∀ k, aget k (match ao.ins.reads with | true => s.heap | false => mergeH s1.heap T s.heap) = if k ∈ T then (match aget k s1.heap with | some b => some b | none => aget k s.heap) else aget k s.heap := fun k => by
        cases hr : ao.ins.reads with
        | false => exact mergeH_get
        | true =>
          rw [hreads hr]
          simp only [restrict]
          rw [pickA_get]
          by_cases hk : k ∈ T
          · simp only [hk, if_true]; cases aget k s.heap <;> rfl
          · simp only [hk, if_false]
      have := frame_good (hG := match ao.ins.reads with | true => s.heap | false => mergeH s1.heap T s.heap) (T := T) (ts := ao.ins.tmps) (i := ao.ins) (by rw [e1]; exact hi) hR J.H J.E h1 h2 e h3 h4 hG
      refine .inl (this.wp fun x W' ⟨S', ρ', H, L, Rv⟩ => ?_)
      refine hn (putD { env := s.env, heap := match ao.ins.reads with | true => s.heap | false => mergeH s1.heap T s.heap } ao.dst v) W' S' ρ' _ ⟨fun t => ?_, fun k => ?_⟩ (by rw [e2]; exact J.put (st' := { env := s.env, heap := match ao.ins.reads with | true => s.heap | false => mergeH s1.heap T s.heap }) hd rfl H L Rv)
      · rw [putD_env, putD_env]; by_cases h : t ∈ dstL ao.dst <;> simp [h]
      · rw [putD_heap, putD_heap]
        cases hr : ao.ins.reads with
        | true => simp
        | false =>
          simp only [Bool.not_false, true_and]
          rw [mergeH_get]
          by_cases hk : k ∈ T
          · rw [if_pos hk, if_pos hk, mergeH_get, if_pos hk, A.2 k hk]
          · rw [if_neg hk, if_neg hk]
  · cases hc
end
def G {α : Type} (w : Nat → Bool) (x : Nat → α) (init : α) (p : Nat → Bool) : Nat → α
  | 0 => init
  | n + 1 => if p n && w n then x n else G w x init p n
theorem G_congr {α : Type} {w : Nat → Bool} {x : Nat → α} {init : α} {p p' : Nat → Bool} : ∀ {n : Nat}, (∀ j, j < n → (p j && w j) = (p' j && w j)) → G w x init p n = G w x init p' n
  | 0, _ => rfl
  | n + 1, h => by
    simp only [G]
    rw [h n (Nat.lt_succ_self n), G_congr (fun j hj => h j (by omega))]
theorem G_ins {α : Type} {w : Nat → Bool} {x : Nat → α} {init : α} {p : Nat → Bool} {i : Nat} : ∀ {n : Nat}, i < n → (∀ j, j < n → (p j && w j) = true → w i = true → j < i) → p i = false →
    G w x init (fun j => p j || j == i) n = if w i then x i else G w x init p n
  | n + 1, hi, h, hp => by
    simp only [G]
    by_cases hin : i = n
    · subst hin
      simp only [beq_self_eq_true, Bool.or_true, Bool.true_and, hp, Bool.false_and, Bool.false_eq_true, if_false]
      by_cases hw : w i = true
      · simp [hw]
      · simp only [hw, if_false]
        exact G_congr (fun j hj => by simp [show (j == i) = false by simp; omega])
    · have hne : (n == i) = false := by simp; omega
      simp only [hne, Bool.or_false]
      have ih := G_ins (w := w) (x := x) (init := init) (p := p) (i := i) (n := n) (by omega) (fun j hj => h j (by omega)) hp
      by_cases hw : w i = true
      · by_cases hpn : (p n && w n) = true
        · have := h n (Nat.lt_succ_self n) hpn hw; omega
        · simp only [hpn, if_false]; rw [ih, if_pos hw, if_pos hw]; rfl
      · rw [ih, if_neg hw, if_neg hw]
theorem maskTab_get : ∀ (rest : List (List Nat)) (acc : List Nat) (i : Nat), (∀ d, i < acc.length → (maskTab acc rest).getD i d = acc.getD i d) ∧
    (∀ ds, acc.length ≤ i → rest[i - acc.length]? = some ds → ∀ j, ((maskTab acc rest).getD i 0).testBit j = true → ∃ k ∈ ds, j = k ∨ (k < i ∧ ((maskTab acc rest).getD k 0).testBit j = true))
  | [], acc, i => ⟨fun d _ => rfl, fun ds _ h => by simp at h⟩
  | d0 :: rest, acc, i => by
    have foldBit : ∀ (ds : List Nat) (s j : Nat), (ds.foldl (fun s k => s ||| (2 ^ k ||| acc.getD k 0)) s).testBit j = true → s.testBit j = true ∨ ∃ k ∈ ds, j = k ∨ (acc.getD k 0).testBit j = true := by
      intro ds
      induction ds with
      | nil => intro s j h; exact .inl h
      | cons k ds ih =>
        intro s j h
        simp only [List.foldl_cons] at h
        rcases ih _ j h with h1 | ⟨k', hk', h1⟩
        · simp only [Nat.testBit_or, Bool.or_eq_true] at h1
          rcases h1 with h1 | h1 | h1
          · exact .inl h1
          · rw [Nat.testBit_two_pow] at h1
            have h5 : k = j := by simpa using h1
            exact .inr ⟨k, List.mem_cons_self, .inl h5.symm⟩
          · exact .inr ⟨k, List.mem_cons_self, .inr h1⟩
        · exact .inr ⟨k', List.mem_cons_of_mem _ hk', h1⟩
    let acc' := acc ++ [d0.foldl (fun s k => s ||| (2 ^ k ||| acc.getD k 0)) 0]
    have hlen : acc'.length = acc.length + 1 := by simp [acc']
    have ih := maskTab_get rest acc'
    refine ⟨fun d hi => ?_, fun ds hi hds j hj => ?_⟩
    · have := (ih i).1 d (by omega)
      show (maskTab acc' rest).getD i d = _
      rw [this]
      simp [acc', List.getD, List.getElem?_append_left hi]
    · by_cases he : i = acc.length
      · subst he
        simp at hds
        subst hds
        have h1 := (ih acc.length).1 0 (by omega)
        have hj' : ((maskTab acc' rest).getD acc.length 0).testBit j = true := hj
        rw [h1] at hj'
        have hacc : acc'.getD acc.length 0 = d0.foldl (fun s k => s ||| (2 ^ k ||| acc.getD k 0)) 0 := by simp [acc', List.getD]
        rw [hacc] at hj'
        rcases foldBit d0 0 j hj' with h2 | ⟨k, hk, h2⟩
        · simp at h2
        · refine ⟨k, hk, ?_⟩
          rcases h2 with h2 | h2
          · exact .inl h2
          · right
            by_cases hkl : k < acc.length
            · refine ⟨hkl, ?_⟩
              have h3 := (ih k).1 0 (by omega)
              show ((maskTab acc' rest).getD k 0).testBit j = true
              rw [h3]
              have : acc'.getD k 0 = acc.getD k 0 := by simp [acc', List.getD, List.getElem?_append_left hkl]
              rw [this]; exact h2
            · have : acc.getD k 0 = 0 := by simp [List.getD, List.getElem?_eq_none (by omega : acc.length ≤ k)]
              rw [this] at h2; simp at h2
      · have := (ih i).2 ds (by omega) (by rw [hlen]; rw [show i - acc.length = (i - (acc.length + 1)) + 1 by omega] at hds; simpa using hds) j hj
        exact this
theorem anc_in {deps : List (List Nat)} {p : Nat → Bool} (hdown : ∀ j ds, deps[j]? = some ds → p j = true → ∀ k ∈ ds, p k = true) : ∀ (i : Nat) (ds : List Nat), deps[i]? = some ds → (∀ k ∈ ds, p k = true) → ∀ j, ((maskTab [] deps).getD i 0).testBit j = true → p j = true := by
  intro i
  induction i using Nat.strongRecOn with
  | ind i ih =>
    intro ds hds hp j hj
    obtain ⟨k, hk, h1⟩ := (maskTab_get deps [] i).2 ds (Nat.zero_le _) (by simpa using hds) j hj
    rcases h1 with rfl | ⟨hlt, h1⟩
    · exact hp _ hk
    · have hkl : k < deps.length := by have := (List.getElem?_eq_some_iff.1 hds).1; omega
      exact ih k hlt _ (List.getElem?_eq_getElem hkl) (fun m hm => hdown k _ (List.getElem?_eq_getElem hkl) (hp k hk) m hm) j h1
theorem disjB_iff {a b : List Nat} (h : disjB a b = true) {k : Nat} (ha : k ∈ a) (hb : k ∈ b) : False := by
  have := List.all_eq_true.1 h k ha
  simp at this
  exact this hb
def depsOf (o : Oper) : List Nat := (o.after.toList.filter (Region.binds .any)).map (·.on)
def compD (P : Program) (modes : Nat → List Mode × List Mode) (N : Nat) (ops : Array Oper) : List Oper → Option (List DOper)
  | [] => some []
  | o :: r => match compO P modes N ops o, compD P modes N ops r with | some x, some l => some (⟨x, depsOf o⟩ :: l) | _, _ => none
section
variable {P : Program} {W0 W W' : World} {S0 M S S' : Nat → Prop} {ρ ρ' : Nat → Place} {st : St} {a : Act} {N : Nat} {pins : List Nat} {pl : Nat → Place × (Nat × Bool)} {R : Nat → List TV → Option Ans} {modes : Nat → List Mode × List Mode} {β : Type} {r : β}
theorem compD_get {ops : Array Oper} : ∀ {l : List Oper} {dl : List DOper}, compD P modes N ops l = some dl → dl.length = l.length ∧ ∀ (j : Nat) (o : Oper), l[j]? = some o → ∃ d, dl[j]? = some d ∧ compO P modes N ops o = some d.o ∧ d.deps = depsOf o
  | [], dl, h => by cases h; exact ⟨rfl, fun j o h => by simp at h⟩
  | o :: l, dl, h => by
    simp only [compD] at h
    split at h <;> cases h
    rename_i x l' h1 h2
    obtain ⟨a, b⟩ := compD_get h2
    refine ⟨by simp [a], fun j o' ho => ?_⟩
    cases j with
    | zero => simp at ho; subst ho; exact ⟨_, rfl, h1, rfl⟩
    | succ j => exact b j o' (by simpa using ho)
theorem drawRun_rec : ∀ (dl : List DOper) (st : St) {K : St → List TI → Option β}, drawRun R dl st K = some r →
    ∃ (pre : Nat → St) (ti : Nat → TI), pre 0 = st ∧ (∀ (j : Nat) (d : DOper), dl[j]? = some d → DStep R d.o (pre j) (pre (j + 1)) (ti j)) ∧ K (pre dl.length) ((List.range dl.length).map ti) = some r
  | [], st, K, e => ⟨fun _ => st, fun _ => ⟨[], [], [], false⟩, rfl, fun j d h => by simp at h, e⟩
  | d :: dl, st, K, e => by
    simp only [drawRun] at e
    obtain ⟨st', ti0, e, D⟩ := drawO_rec e
    obtain ⟨pre, ti, h0, h1, h2⟩ := drawRun_rec dl st' e
    refine ⟨fun j => match j with | 0 => st | j + 1 => pre j, fun j => match j with | 0 => ti0 | j + 1 => ti j, rfl, fun j d' hd => ?_, ?_⟩
    · cases j with
      | zero => simp at hd; subst hd; show DStep R d.o st (pre 0) ti0; rw [h0]; exact D
      | succ j => exact h1 j d' (by simpa using hd)
    · simp only [List.length_cons, List.range_succ_eq_map, List.map_cons, List.map_map]
      exact h2
theorem Inv.congr {s s' : St} (he : ∀ t, aget t s'.env = aget t s.env) (hh : ∀ k, aget k s'.heap = aget k s.heap) (J : Inv W0 S0 M N pins pl W S ρ s a) : Inv W0 S0 M N pins pl W S ρ s' a := by
  have L : Later W S ρ s.heap W S ρ s'.heap := ⟨fun _ h => h, fun _ _ => rfl, fun k b hb => ⟨rfl, b, (hh k).trans hb, b.le_refl⟩⟩
  refine ⟨⟨J.H.ext, J.H.sub, J.H.sup, J.H.lt, fun k b hb => ?_, fun k b hb => J.H.own k b ((hh k).symm.trans hb), fun k k' b b' hb hb' => J.H.dis k k' b b' ((hh k).symm.trans hb) ((hh k').symm.trans hb')⟩, fun t v hv => ?_, J.size, J.dfr, fun k hk => ?_⟩
  · exact (J.H.blk k b ((hh k).symm.trans hb)).later L rfl (Nat.le_refl _) (fun h _ => h)
  · obtain ⟨x, hx, Rx⟩ := J.E t v ((he t).symm.trans hv)
    exact ⟨x, hx, Rx.later L⟩
  · obtain ⟨h1, b, hb, h2⟩ := J.pin k hk
    exact ⟨h1, b, (hh k).trans hb, h2⟩
theorem Inv.drew (J : Inv W0 S0 M N pins pl W S ρ st a) : Inv W0 S0 M N pins pl { W with drawn := W.drawn + 1 } S ρ st a := by
  obtain ⟨H, L⟩ := J.H.poke (X := fun _ => False) (W' := { W with drawn := W.drawn + 1 }) ⟨rfl, rfl, rfl, Nat.le_refl _, fun _ _ _ => rfl⟩ (fun _ h => h.elim) (fun _ h => h.elim) (fun _ _ _ _ h => h)
  exact ⟨H, fun t v hv => by obtain ⟨x, hx, Rx⟩ := J.E t v hv; exact ⟨x, hx, Rx.later L⟩, J.size, J.dfr, J.pin⟩
theorem DStep.frame {o : AOper} {s s' : St} {ti : TI} (D : DStep R o s s' ti) : (∀ t, t ∉ ti.wt → aget t s'.env = aget t s.env) ∧ ∀ k, ¬ (ti.wr = true ∧ k ∈ ti.T) → aget k s'.heap = aget k s.heap := by
  cases D with
  | no hg hs ht =>
    subst hs; subst ht
    exact ⟨fun t h => by rw [putD_env, if_neg h], fun k _ => by rw [putD_heap]⟩
  | go T v s1 hg h1 h2 e h3 h4 hs ht =>
    subst hs; subst ht
    refine ⟨fun t h => by rw [putD_env, if_neg h], fun k h => ?_⟩
    rw [putD_heap]
    cases hr : o.ins.reads with
    | true => rfl
    | false =>
      simp only [hr, Bool.not_false, true_and] at h
      simp only
      rw [mergeH_get, if_neg h]
theorem depsOk_get : ∀ {deps : List (List Nat)} {i0 j : Nat} {ds : List Nat}, depsOk i0 deps = true → deps[j]? = some ds → ∀ k ∈ ds, k < i0 + j
  | d :: deps, i0, 0, ds, h, hd, k, hk => by
    simp only [depsOk, Bool.and_eq_true] at h
    simp at hd; subst hd
    simpa using List.all_eq_true.1 h.1 k hk
  | d :: deps, i0, j + 1, ds, h, hd, k, hk => by
    simp only [depsOk, Bool.and_eq_true] at h
    have := depsOk_get (i0 := i0 + 1) (j := j) h.2 (by simpa using hd) k hk
    omega
  | [], _, _, _, _, hd, _, _ => by simp at hd
theorem filter_less {p : Nat → Bool} {i : Nat} : ∀ {l : List Nat}, i ∈ l → p i = true → (l.filter fun j => p j && !(j == i)).length < (l.filter p).length
  | j :: l, hi, hp => by
    have le : ∀ l : List Nat, (l.filter fun j => p j && !(j == i)).length ≤ (l.filter p).length := by
      intro l
      induction l with
      | nil => exact Nat.le_refl _
      | cons k l ih =>
        simp only [List.filter_cons]
        cases hk : p k <;> cases hki : k == i <;> simp <;> omega
    simp only [List.filter_cons]
    by_cases hji : j = i
    · subst hji
      simp only [beq_self_eq_true, Bool.not_true, Bool.and_false, Bool.false_eq_true, if_false, hp, if_true, List.length_cons]
      have := le l; omega
    · have hm : i ∈ l := (List.mem_cons.1 hi).resolve_left (fun e => hji e.symm)
      have ih := filter_less hm hp
      have hne : (j == i) = false := by simpa using hji
      cases hk : p j <;> simp [hne] <;> omega
theorem draws_ok {ops : Array Oper} {dl : List DOper} {Q : Exit → Act → World → Prop} {K : St → Option β} (hR : OkB P R W0 S0 M) (hc : compD P modes N ops ops.toList = some dl)
    (e : drawRun R dl st (fun st' tis => when (depsOk 0 (dl.map DOper.deps) && indep (maskTab [] (dl.map DOper.deps)) tis) (K st')) = some r) (J0 : Inv W0 S0 M N pins pl W S ρ st a)
    (hQ : ∀ st' W' S' ρ' a', K st' = some r → Inv W0 S0 M N pins pl W' S' ρ' st' a' → Q .normal a' W') : wpAny P .any ops Q ops.size (Array.replicate ops.size false) a { W with drawn := W.drawn + 1 } := by
  obtain ⟨pre, ti, hpre, hD, e⟩ := drawRun_rec dl st e
  obtain ⟨hchk, e⟩ := when_some e
  simp only [Bool.and_eq_true] at hchk
  obtain ⟨hdeps, hind⟩ := hchk
  obtain ⟨hlen, hget⟩ := compD_get hc
  have hlen : dl.length = ops.size := by simpa using hlen
  let n := ops.size
  let deps := dl.map DOper.deps
  let wE : Nat → Nat → Bool := fun t j => (ti j).wt.elem t
  let wH : Nat → Nat → Bool := fun k j => (ti j).wr && (ti j).T.elem k
  have hop : ∀ j, j < n → ∃ o d, ops[j]? = some o ∧ dl[j]? = some d ∧ compO P modes N ops o = some d.o ∧ deps[j]? = some (depsOf o) ∧ DStep R d.o (pre j) (pre (j + 1)) (ti j) := fun j hj => by
    have ho : ops[j]? = some ops[j] := Array.getElem?_eq_getElem hj
    obtain ⟨d, hd, h1, h2⟩ := hget j ops[j] (by simp)
    exact ⟨ops[j], d, ho, hd, h1, by simp only [deps]; rw [List.getElem?_map, hd]; simp [h2], hD j d hd⟩
  -- pairs
  have pairs : ∀ i j, i < j → j < n → ((maskTab [] deps).getD j 0).testBit i = true ∨ apartTI (ti i) (ti j) = true := fun i j hij hj => by
    have hi : i < n := by omega
    have g : ∀ k, k < n → ((List.map ti (List.range dl.length)).zipIdx)[k]? = some (ti k, k) := fun k hk => by
      rw [List.getElem?_zipIdx]; simp [hlen, hk, n]
    have := List.all_eq_true.1 (List.all_eq_true.1 hind _ (List.mem_of_getElem? (g i hi))) _ (List.mem_of_getElem? (g j hj))
    simp only [show Nat.blt i j = true by simpa using hij, Bool.or_eq_true] at this
    exact this
  -- what stands behind the first i of them
  have preE : ∀ i, i ≤ n → ∀ t, aget t (pre i).env = G (wE t) (fun j => aget t (pre (j + 1)).env) (aget t (pre 0).env) (fun j => decide (j < i)) n := by
    intro i
    induction i with
    | zero =>
      intro _ t
      have : ∀ m, G (wE t) (fun j => aget t (pre (j + 1)).env) (aget t (pre 0).env) (fun j => decide (j < 0)) m = aget t (pre 0).env := by
        intro m; induction m with
        | zero => rfl
        | succ m ih => simp only [G]; simpa using ih
      exact (this n).symm
    | succ i ih =>
      intro hi t
      obtain ⟨o, d, _, _, _, _, D⟩ := hop i (by omega)
      have hq : G (wE t) (fun j => aget t (pre (j + 1)).env) (aget t (pre 0).env) (fun j => decide (j < i + 1)) n = G (wE t) (fun j => aget t (pre (j + 1)).env) (aget t (pre 0).env) (fun j => decide (j < i) || j == i) n :=
        G_congr (fun j _ => by rw [show decide (j < i + 1) = (decide (j < i) || j == i) by rw [Bool.eq_iff_iff]; simp; omega])
      rw [hq, G_ins (p := fun j => decide (j < i)) (by omega) (fun j _ hj _ => by simp only [Bool.and_eq_true, decide_eq_true_eq] at hj; exact hj.1) (by simp)]
      by_cases hw : wE t i = true
      · rw [if_pos hw]
      · rw [if_neg hw, ← ih (by omega) t]
        exact D.frame.1 t (by simpa [wE] using hw)
  have preH : ∀ i, i ≤ n → ∀ t, aget t (pre i).heap = G (wH t) (fun j => aget t (pre (j + 1)).heap) (aget t (pre 0).heap) (fun j => decide (j < i)) n := by
    intro i
    induction i with
    | zero =>
      intro _ t
      have : ∀ m, G (wH t) (fun j => aget t (pre (j + 1)).heap) (aget t (pre 0).heap) (fun j => decide (j < 0)) m = aget t (pre 0).heap := by
        intro m; induction m with
        | zero => rfl
        | succ m ih => simp only [G]; simpa using ih
      exact (this n).symm
    | succ i ih =>
      intro hi t
      obtain ⟨o, d, _, _, _, _, D⟩ := hop i (by omega)
      have hq : G (wH t) (fun j => aget t (pre (j + 1)).heap) (aget t (pre 0).heap) (fun j => decide (j < i + 1)) n = G (wH t) (fun j => aget t (pre (j + 1)).heap) (aget t (pre 0).heap) (fun j => decide (j < i) || j == i) n :=
        G_congr (fun j _ => by rw [show decide (j < i + 1) = (decide (j < i) || j == i) by rw [Bool.eq_iff_iff]; simp; omega])
      rw [hq, G_ins (p := fun j => decide (j < i)) (by omega) (fun j _ hj _ => by simp only [Bool.and_eq_true, decide_eq_true_eq] at hj; exact hj.1) (by simp)]
      by_cases hw : wH t i = true
      · rw [if_pos hw]
      · rw [if_neg hw, ← ih (by omega) t]
        exact D.frame.2 t (by simpa [wH] using hw)
  have e' : K (pre n) = some r := by rw [hlen] at e; exact e
  have main : ∀ (fuel : Nat) (listed : Array Bool) (a : Act) (W : World) (S : Nat → Prop) (ρ : Nat → Place) (s : St), listed.size = n → ((List.range n).filter fun j => !(listed.getD j false)).length ≤ fuel →
      (∀ j ds, deps[j]? = some ds → listed.getD j false = true → ∀ k ∈ ds, listed.getD k false = true) →
      (∀ t, aget t s.env = G (wE t) (fun j => aget t (pre (j + 1)).env) (aget t (pre 0).env) (fun j => listed.getD j false) n) →
      (∀ t, aget t s.heap = G (wH t) (fun j => aget t (pre (j + 1)).heap) (aget t (pre 0).heap) (fun j => listed.getD j false) n) →
      Inv W0 S0 M N pins pl W S ρ s a → wpAny P .any ops Q fuel listed a W := by
    intro fuel
    induction fuel with
    | zero =>
      intro listed a W S ρ s hsz hcnt hdown hE hH J
      have all : ∀ j, j < n → listed.getD j false = true := fun j hj => by
        cases h : listed.getD j false with
        | true => rfl
        | false =>
          have : j ∈ (List.range n).filter fun j => !(listed.getD j false) := List.mem_filter.2 ⟨List.mem_range.2 hj, by simp [h]⟩
          have := List.length_pos_of_mem this
          omega
      have fin : Q .normal a W := hQ (pre n) W S ρ a e' (J.congr (fun t => by
        rw [preE n (Nat.le_refl _) t, hE t]; exact G_congr (fun j hj => by simp [all j hj, hj])) (fun t => by
        rw [preH n (Nat.le_refl _) t, hH t]; exact G_congr (fun j hj => by simp [all j hj, hj])))
      refine ⟨?_, fin⟩
      cases hr : Region.ready .any ops listed with
      | nil => rfl
      | cons j js =>
        have hj : j ∈ Region.ready .any ops listed := by rw [hr]; exact List.mem_cons_self
        obtain ⟨h1, o, ho, _⟩ := mem_ready.1 hj
        have hjn : j < n := (Array.getElem?_eq_some_iff.1 ho).1
        have := all j hjn
        have hjl : j < listed.size := by omega
        simp [Array.getD, hjl] at h1 this
        rw [h1] at this; cases this
    | succ fuel ih =>
      intro listed a W S ρ s hsz hcnt hdown hE hH J
      refine ⟨fun hr => ?_, fun i hi => ?_⟩
      · have all : ∀ j, j < n → listed.getD j false = true := by
          intro j
          induction j using Nat.strongRecOn with
          | ind j ihj =>
            intro hj
            cases h : listed.getD j false with
            | true => rfl
            | false =>
              obtain ⟨o, d, ho, _, _, hdj, _⟩ := hop j hj
              have : j ∈ Region.ready .any ops listed := mem_ready.2 ⟨by
                have hjl : j < listed.size := by omega
                simp [Array.getD, hjl] at h ⊢; exact h, o, ho, fun e he hb => by
                have hk : e.on ∈ depsOf o := List.mem_map.2 ⟨e, List.mem_filter.2 ⟨by simpa using he, hb⟩, rfl⟩
                have hlt := depsOk_get (i0 := 0) hdeps hdj e.on hk
                exact ihj e.on (by omega) (by omega)⟩
              rw [hr] at this; cases this
        exact hQ (pre n) W S ρ a e' (J.congr (fun t => by
          rw [preE n (Nat.le_refl _) t, hE t]; exact G_congr (fun j hj => by simp [all j hj, hj])) (fun t => by
          rw [preH n (Nat.le_refl _) t, hH t]; exact G_congr (fun j hj => by simp [all j hj, hj])))
      · obtain ⟨hli, o, ho, hdo⟩ := mem_ready.1 hi
        have hin : i < n := (Array.getElem?_eq_some_iff.1 ho).1
        have hil : i < listed.size := by omega
        have hli' : listed.getD i false = false := by simp [Array.getD, hil] at hli ⊢; exact hli
        obtain ⟨o', d, ho', hd, hcomp, hdi, D⟩ := hop i hin
        rw [ho] at ho'; cases ho'
        have hdp : ∀ k ∈ depsOf o, listed.getD k false = true := fun k hk => by
          obtain ⟨ed, hed, rfl⟩ := List.mem_map.1 hk
          obtain ⟨h1, h2⟩ := List.mem_filter.1 hed
          exact hdo ed (by simpa using h1) h2
        have ancI : ∀ j, ((maskTab [] deps).getD i 0).testBit j = true → listed.getD j false = true := anc_in (p := fun j => listed.getD j false) hdown i _ hdi hdp
        have ancO : ∀ j, j < n → listed.getD j false = true → ((maskTab [] deps).getD j 0).testBit i = true → False := fun j hj hl hb => by
          obtain ⟨oj, dj, _, _, _, hdj, _⟩ := hop j hj
          have := anc_in (p := fun j => listed.getD j false) hdown j _ hdj (hdown j _ hdj hl) i hb
          rw [hli'] at this; cases this
        -- who wrote what is read
        have same : ∀ (w : Nat → Bool), (∀ j, j < n → j ≠ i → w j = true → (apartTI (ti i) (ti j) = true → False) ∧ (apartTI (ti j) (ti i) = true → False)) → ∀ j, j < n → (listed.getD j false && w j) = (decide (j < i) && w j) := fun w hw j hj => by
          by_cases hji : j = i
          · subst hji; simp [hli']
          · cases hwj : w j with
            | false => simp
            | true =>
              obtain ⟨q1, q2⟩ := hw j hj hji hwj
              simp only [Bool.and_true]
              rcases Nat.lt_or_gt_of_ne hji with hlt | hgt
              · rcases pairs j i hlt hin with h0 | h0
                · rw [ancI j h0]; simp [hlt]
                · exact (q2 h0).elim
              · rcases pairs i j hgt hj with h0 | h0
                · cases hl : listed.getD j false with
                  | true => exact (ancO j hj hl h0).elim
                  | false => simp; omega
                · exact (q1 h0).elim
        have apE : ∀ {x y : TI} {t : Nat}, t ∈ x.rt ++ x.wt → t ∈ y.wt → (apartTI x y = true → False) ∧ (apartTI y x = true → False) := fun {x y t} hx hy => by
          refine ⟨fun h => ?_, fun h => ?_⟩ <;> simp only [apartTI, Bool.and_eq_true] at h
          · rcases List.mem_append.1 hx with h1 | h1
            · exact disjB_iff h.2.1 hy h1
            · exact disjB_iff h.1 h1 (List.mem_append_right _ hy)
          · exact disjB_iff h.1 hy hx
        have apH : ∀ {x y : TI} {t : Nat}, t ∈ x.T → t ∈ y.T → (x.wr = true ∨ y.wr = true) → (apartTI x y = true → False) ∧ (apartTI y x = true → False) := fun {x y t} hx hy hw => by
          refine ⟨fun h => ?_, fun h => ?_⟩ <;> simp only [apartTI, Bool.and_eq_true] at h
          · have h2 := h.2.2
            rw [show (x.wr || y.wr) = true by rcases hw with h | h <;> simp [h]] at h2
            exact disjB_iff h2 hx hy
          · have h2 := h.2.2
            rw [show (y.wr || x.wr) = true by rcases hw with h | h <;> simp [h]] at h2
            exact disjB_iff h2 hy hx
        have A : Agree (ti i) (pre i) s := ⟨fun t ht => by
          rw [hE t, preE i (by omega) t]
          exact G_congr (same (wE t) (fun j _ _ hw => apE (List.mem_append_left _ ht) (by simpa [wE] using hw))), fun t ht => by
          rw [hH t, preH i (by omega) t]
          exact G_congr (same (wH t) (fun j _ _ hw => by
            simp only [wH, Bool.and_eq_true] at hw
            exact apH ht (by simpa using hw.2) (.inr hw.1)))⟩
        have hset : ∀ j, (listed.setIfInBounds i true).getD j false = (listed.getD j false || j == i) := fun j => by
          by_cases hji : j = i
          · subst hji; simp [Array.getD, hil]
          · rw [getD_set_ne false (fun e => hji e.symm)]; simp [hji]
        unfold wpOp
        simp only [ho]
        refine dstep_ok hR hcomp D A J fun s' W' S' ρ' a' Hs J' => ih _ a' W' S' ρ' s' (by simpa using hsz) ?_ ?_ ?_ ?_ J'
        · have := filter_less (p := fun j => !(listed.getD j false)) (i := i) (l := List.range n) (List.mem_range.2 hin) (by simp [hli'])
          have he : ((List.range n).filter fun j => !((listed.setIfInBounds i true).getD j false)) = ((List.range n).filter fun j => !(listed.getD j false) && !(j == i)) := by
            apply List.filter_congr; intro j _; rw [hset j]; simp
          rw [he]; omega
        · intro j ds hds hj k hk
          rw [hset] at hj ⊢
          simp only [Bool.or_eq_true, beq_iff_eq] at hj ⊢
          rcases hj with hj | rfl
          · exact .inl (hdown j ds hds hj k hk)
          · rw [hdi] at hds; cases hds; exact .inl (hdp k hk)
        · intro t
          rw [Hs.1 t]
          have hq : G (wE t) (fun j => aget t (pre (j + 1)).env) (aget t (pre 0).env) (fun j => (listed.setIfInBounds i true).getD j false) n = G (wE t) (fun j => aget t (pre (j + 1)).env) (aget t (pre 0).env) (fun j => listed.getD j false || j == i) n := G_congr (fun j _ => by rw [hset j])
          rw [hq, G_ins (p := fun j => listed.getD j false) hin (fun j hj hjw hwi => by
            simp only [Bool.and_eq_true] at hjw
            have hne : j ≠ i := fun e => by subst e; rw [hli'] at hjw; cases hjw.1
            rcases Nat.lt_or_gt_of_ne hne with hlt | hgt
            · exact hlt
            · have h2 := apE (x := ti i) (y := ti j) (t := t) (List.mem_append_right _ (by simpa [wE] using hwi)) (by simpa [wE] using hjw.2)
              rcases pairs i j hgt hj with h0 | h0
              · exact (ancO j hj hjw.1 h0).elim
              · exact (h2.1 h0).elim) hli']
          by_cases hw : wE t i = true
          · rw [if_pos hw, if_pos (by simpa [wE] using hw)]
          · rw [if_neg hw, if_neg (by simpa [wE] using hw), hE t]
        · intro t
          rw [Hs.2 t]
          have hq : G (wH t) (fun j => aget t (pre (j + 1)).heap) (aget t (pre 0).heap) (fun j => (listed.setIfInBounds i true).getD j false) n = G (wH t) (fun j => aget t (pre (j + 1)).heap) (aget t (pre 0).heap) (fun j => listed.getD j false || j == i) n := G_congr (fun j _ => by rw [hset j])
          rw [hq, G_ins (p := fun j => listed.getD j false) hin (fun j hj hjw hwi => by
            simp only [Bool.and_eq_true] at hjw
            have hne : j ≠ i := fun e => by subst e; rw [hli'] at hjw; cases hjw.1
            rcases Nat.lt_or_gt_of_ne hne with hlt | hgt
            · exact hlt
            · simp only [wH, Bool.and_eq_true] at hwi hjw
              have h2 := apH (x := ti i) (y := ti j) (t := t) (by simpa using hwi.2) (by simpa using hjw.2.2) (.inl hwi.1)
              rcases pairs i j hgt hj with h0 | h0
              · exact (ancO j hj hjw.1 h0).elim
              · exact (h2.1 h0).elim) hli']
          by_cases hw : wH t i = true
          · rw [if_pos hw, if_pos (by simpa [wH] using hw)]
          · rw [if_neg hw, if_neg (by simpa [wH] using hw), hH t]
  refine main ops.size _ a _ S ρ st (by simp [n]) ?_ ?_ ?_ ?_ J0.drew
  · exact Nat.le_trans (List.length_filter_le _ _) (by simp [n])
  · intro j ds _ hj
    exfalso
    have : (Array.replicate ops.size false).getD j false = false := by
      simp [Array.getD]
    rw [this] at hj; cases hj
  · intro t
    have : ∀ m, G (wE t) (fun j => aget t (pre (j + 1)).env) (aget t (pre 0).env) (fun j => (Array.replicate ops.size false).getD j false) m = aget t (pre 0).env := by
      intro m; induction m with
      | zero => rfl
      | succ m ih =>
        have : (Array.replicate ops.size false).getD m false = false := by simp [Array.getD]
        simp only [G, this]; simpa using ih
    rw [this, hpre]
  · intro t
    have : ∀ m, G (wH t) (fun j => aget t (pre (j + 1)).heap) (aget t (pre 0).heap) (fun j => (Array.replicate ops.size false).getD j false) m = aget t (pre 0).heap := by
      intro m; induction m with
      | zero => rfl
      | succ m ih =>
        have : (Array.replicate ops.size false).getD m false = false := by simp [Array.getD]
        simp only [G, this]; simpa using ih
    rw [this, hpre]
end
end Go.Ab
end
section
namespace Go.Ab
section
variable {P : Program} {W0 W W' : World} {S0 M S S' : Nat → Prop} {ρ ρ' : Nat → Place} {st : St} {a : Act} {N : Nat} {pins : List Nat} {pl : Nat → Place × (Nat × Bool)} {R : Nat → List TV → Option Ans} {modes : Nat → List Mode × List Mode} {β : Type} {r : β}
def compC (P : Program) (modes : Nat → List Mode × List Mode) (N : Nat) (live : Code → List Nat × List Nat) : Code → Option ACode
  | .skip => some .skip
  | .region _ ops false => (compOps P modes N ops ops.toList).map .region
  | .region _ ops true => match P.follows .mixedOrders with | true => (compD P modes N ops ops.toList).map .draws | false => none
  | .seq a b => match compC P modes N live a, compC P modes N live b with | some x, some y => (match (live (.seq .skip b)).2 with | [] => some (.seq x y) | _ :: _ => some (.seq x (.trim (live (.seq .skip b)).1 y))) | _, _ => none
  | .cond c a b => match opn c, compC P modes N live a, compC P modes N live b with | some z, some x, some y => some (.cond z x y) | _, _, _ => none
  | .block id c => (compC P modes N live c).map (.block id)
  | .loop c => (compC P modes N live c).map (.loop (live c).1 (live c).2)
  | .exit id => some (.exit id)
  | .ret => some .ret
  | _ => none
def PostC (W0 : World) (S0 M : Nat → Prop) (N : Nat) (pins : List Nat) (pl : Nat → Place × (Nat × Bool)) (K : AExit → St → Option β) (r : β) : Exit → Act → World → Prop := fun e' a' W' =>
  ∃ e st' S' ρ', AExit.real e = e' ∧ K e st' = some r ∧ Inv W0 S0 M N pins pl W' S' ρ' st' a'
theorem Inv.canon {W : World} {S : Nat → Prop} {ρ : Nat → Place} {st : St} {a : Act} (hpin : ∀ k ∈ pins, k < 4095) {lv : List Nat} (J : Inv W0 S0 M N pins pl W S ρ st a) : ∃ ρ', Inv W0 S0 M N pins pl W S ρ' (canon pins lv st) a := by
  obtain ⟨ρ', H, E, hp⟩ := canon_ok (live := lv) hpin J.H J.E
  exact ⟨ρ', H, E, J.size, J.dfr, fun k hk => by
    obtain ⟨h1, b, hb, hbc⟩ := J.pin k hk
    obtain ⟨c', hc', hv, hd⟩ := (hp k hk).2 b hb
    refine ⟨(hp k hk).1.trans h1, c', hc', ?_⟩
    rcases hbc with h0 | h0
    · exact .inl (hd h0)
    · exact .inr (hv.trans h0)⟩
theorem exec_ok (hR : OkB P R W0 S0 M) {k : Nat} (hpin : ∀ k ∈ pins, k < 4095) {live : Code → List Nat × List Nat} : ∀ (c : Code) (ac : ACode), compC P modes N live c = some ac → ∀ {β : Type} {r : β} {K : AExit → St → Option β} (W : World) (S : Nat → Prop) (ρ : Nat → Place) (st : St) (a : Act),
    exec R k pins ac β st K = some r → Inv W0 S0 M N pins pl W S ρ st a → c.wp P (PostC W0 S0 M N pins pl K r) a W
  | .skip, ac, hc, β, r, K, W, S, ρ, st, a, e, J => by
    cases hc
    exact wp_skip ⟨.normal, st, S, ρ, rfl, e, J⟩
  | .region id ops false, ac, hc, β, r, K, W, S, ρ, st, a, e, J => by
    simp only [compC] at hc
    obtain ⟨al, hal, rfl⟩ := Option.map_eq_some_iff.1 hc
    refine wp_region ?_
    have := execOps_ok (ops := ops) hR (Q := PostC W0 S0 M N pins pl K r) (K := fun st' => K .normal st') (fun st' W' S' ρ' a' hk J' => ⟨.normal, st', S', ρ', rfl, hk, J'⟩) ops.toList al 0 rfl hal W S ρ st a J e
    rw [List.range_eq_range']
    simpa using this
  | .region id ops true, ac, hc, β, r, K, W, S, ρ, st, a, e, J => by
    simp only [compC] at hc
    split at hc
    · rename_i hm
      obtain ⟨dl, hdl, rfl⟩ := Option.map_eq_some_iff.1 hc
      exact wp_region_any hm (draws_ok (K := fun st' => K .normal st') hR hdl e J (fun st' W' S' ρ' a' hk J' => ⟨.normal, st', S', ρ', rfl, hk, J'⟩))
    · cases hc
  | .seq x y, ac, hc, β, r, K, W, S, ρ, st, a, e, J => by
    simp only [compC] at hc
    split at hc
    · rename_i ax ay h1 h2
      split at hc <;> cases hc
      · refine wp_seq ?_
        refine wp_mono (exec_ok hR hpin x ax h1 W S ρ st a e J) fun e' a' W' hpost => ?_
        obtain ⟨ae, st', S', ρ', rfl, hk, J'⟩ := hpost
        cases ae with
        | normal => exact exec_ok hR hpin y ay h2 W' S' ρ' st' a' hk J'
        | exit id => exact ⟨.exit id, st', S', ρ', rfl, hk, J'⟩
        | ret => exact ⟨.ret, st', S', ρ', rfl, hk, J'⟩
      · refine wp_seq ?_
        refine wp_mono (exec_ok hR hpin x ax h1 W S ρ st a e J) fun e' a' W' hpost => ?_
        obtain ⟨ae, st', S', ρ', rfl, hk, J'⟩ := hpost
        cases ae with
        | normal =>
          obtain ⟨ρ2, J2⟩ := J'.canon hpin (lv := (live (.seq .skip y)).1)
          exact exec_ok hR hpin y ay h2 W' S' ρ2 _ a' hk J2
        | exit id => exact ⟨.exit id, st', S', ρ', rfl, hk, J'⟩
        | ret => exact ⟨.ret, st', S', ρ', rfl, hk, J'⟩
    · cases hc
  | .cond c x y, ac, hc, β, r, K, W, S, ρ, st, a, e, J => by
    simp only [compC] at hc
    split at hc <;> cases hc
    rename_i z ax ay h0 h1 h2
    simp only [exec] at e
    obtain ⟨v, e, Rv⟩ := ev_ok J.E h0 e
    obtain ⟨b, hb, e⟩ := getB_ok Rv e
    cases b with
    | true => exact wp_cond_true hb (exec_ok hR hpin x ax h1 W S ρ st a e J)
    | false => exact wp_cond_false hb (exec_ok hR hpin y ay h2 W S ρ st a e J)
  | .block id c, ac, hc, β, r, K, W, S, ρ, st, a, e, J => by
    simp only [compC] at hc
    obtain ⟨x, hx, rfl⟩ := Option.map_eq_some_iff.1 hc
    refine wp_block ?_
    refine wp_mono (exec_ok hR hpin c x hx W S ρ st a e J) fun e' a' W' hpost => ?_
    obtain ⟨ae, st', S', ρ', rfl, hk, J'⟩ := hpost
    cases ae with
    | normal => exact ⟨.normal, st', S', ρ', rfl, hk, J'⟩
    | ret => exact ⟨.ret, st', S', ρ', rfl, hk, J'⟩
    | exit j =>
      simp only [AExit.real, Exit.inBlock]
      simp only at hk
      by_cases hj : j = id
      · rw [if_pos hj]
        rw [show (j == id) = true by simpa using hj] at hk
        exact ⟨.normal, st', S', ρ', rfl, hk, J'⟩
      · rw [if_neg hj]
        rw [show (j == id) = false by simpa using hj] at hk
        exact ⟨.exit j, st', S', ρ', rfl, hk, J'⟩
  | .loop c, ac, hc, β, r, K, W, S, ρ, st, a, e, J => by
    simp only [compC] at hc
    obtain ⟨x, hx, rfl⟩ := Option.map_eq_some_iff.1 hc
    simp only [exec] at e
    split at e
    · rename_i ans hans
      obtain ⟨ae, stE⟩ := ans
      have canonJ := fun lv W S ρ st a (J : Inv W0 S0 M N pins pl W S ρ st a) => J.canon hpin (lv := lv)
      obtain ⟨ρ1, J1⟩ := canonJ (live c).1 W S ρ st a J
      refine wp_rounds (I := fun n a W => ∃ S ρ st, loopD pins (live c).1 (live c).2 (exec R k pins x (AExit × St)) n st = some (ae, stE) ∧ Inv W0 S0 M N pins pl W S ρ st a) ?_ ⟨S, ρ1, _, hans, J1⟩
      intro n a W ⟨S, ρ, st, hn, J⟩
      cases n with
      | zero => cases hn
      | succ n =>
        simp only [loopD] at hn
        refine wp_mono (exec_ok hR hpin c x hx W S ρ st a hn J) fun e' a' W' hpost => ?_
        obtain ⟨be, st', S', ρ', rfl, hk, J'⟩ := hpost
        cases be with
        | normal =>
          obtain ⟨ρ2, J2⟩ := canonJ (live c).1 W' S' ρ' st' a' J'
          exact ⟨n, Nat.lt_succ_self n, S', ρ2, _, hk, J2⟩
        | exit id =>
          obtain ⟨ρ2, J2⟩ := canonJ (live c).2 W' S' ρ' st' a' J'
          cases hk
          exact ⟨.exit id, _, S', ρ2, rfl, e, J2⟩
        | ret =>
          obtain ⟨ρ2, J2⟩ := canonJ (live c).2 W' S' ρ' st' a' J'
          cases hk
          exact ⟨.ret, _, S', ρ2, rfl, e, J2⟩
    · cases e
  | .exit id, ac, hc, β, r, K, W, S, ρ, st, a, e, J => by
    cases hc
    exact wp_exit ⟨.exit id, st, S, ρ, rfl, e, J⟩
  | .ret, ac, hc, β, r, K, W, S, ρ, st, a, e, J => by
    cases hc
    exact wp_ret ⟨.ret, st, S, ρ, rfl, e, J⟩
  | .rangeFunc .., ac, hc, β, r, K, W, S, ρ, st, a, e, J => by cases hc
  | .scope _, ac, hc, β, r, K, W, S, ρ, st, a, e, J => by cases hc
  | .label _, ac, hc, β, r, K, W, S, ρ, st, a, e, J => by cases hc
  | .goto _, ac, hc, β, r, K, W, S, ρ, st, a, e, J => by cases hc
  | .refuse _, ac, hc, β, r, K, W, S, ρ, st, a, e, J => by cases hc
end
end Go.Ab
end
section
namespace Go.Ab
def compRes (P : Program) : List ResultVar → List Mode → Option (List (RV × Mode))
  | [], [] => some []
  | .tmp t :: r, m :: ms => (compRes P r ms).map fun l => (.tmp t, m) :: l
  | .cell a t :: r, m :: ms => match szOf P t, compRes P r ms with | some (n, agg), some l => some ((.cell a n agg, m) :: l) | _, _ => none
  | _, _ => none
def compF (P : Program) (modes : Nat → List Mode × List Mode) (live : Code → List Nat × List Nat) (f : Nat) (fn : Func) : Option AFunc :=
  match fn.body with
  | some c => match compC P modes fn.ntmps live c, compRes P fn.results.toList (modes f).2 with
    | some b, some l => match fn.name == "runtime.NumGoroutine" with
      | false => some { np := fn.params.size + fn.nfree, res := l, body := b, prim := none }
      | true => none
    | _, _ => none
  | none => none
def TabOK (P : Program) (modes : Nat → List Mode × List Mode) (lives : Nat → Code → List Nat × List Nat) (tab : Nat → Option AFunc) : Prop :=
  ∀ f af, tab f = some af → (∃ fn, P.funcs[f]? = some fn ∧ compF P modes (lives f) f fn = some af) ∨
    (∃ fn p, af.prim = some p ∧ P.funcs[f]? = some fn ∧ (fn.name == "runtime.NumGoroutine") = false ∧ fn.body.isNone = false ∧ ∀ ts r, p ts = some r → CallOK P f ts r)
section
variable {P : Program} {W0 W W' : World} {S0 M S S' : Nat → Prop} {ρ ρ' : Nat → Place} {st : St} {a : Act} {N : Nat} {pins : List Nat} {pl : Nat → Place × (Nat × Bool)} {R : Nat → List TV → Option Ans} {modes : Nat → List Mode × List Mode} {β : Type} {r : β}
theorem enters_ok {M : Nat → Prop} (hlt : ∀ b, S b → b < W.heap.size) : ∀ (ts : List TV) (xs : List Value) (Bs : List Nat) (j : Nat), RepTs W S ts xs Bs → (∀ b ∈ Bs, M b) → (∀ (i : Nat) (x : Value), xs[i]? = some x → a.tmps[j + i]? = some x) →
    ∃ ρ, HInv W S M W S ρ (enters j ts).heap ∧ EInv W S ρ (enters j ts).heap (enters j ts).env a ∧ (∀ k b, aget k (enters j ts).heap = some b → 4 * j ≤ k ∧ (ρ k).B ∈ Bs) ∧
      ∃ pl : Nat → Place × (Nat × Bool), (∀ k ∈ pinsOf j ts, 4 * j ≤ k ∧ ρ k = (pl k).1 ∧ ∃ b, aget k (enters j ts).heap = some b ∧ b.varOf = some (pl k).2) ∧
        (∀ (W2 : World) (S2 : Nat → Prop) (l : List LV), l.length = (pinsOf j ts).length → (∀ (i k : Nat) (v : LV), (pinsOf j ts)[i]? = some k → l[i]? = some v → VarAt W2 S2 ρ00 [] (pl k).1.B (pl k).2.1 (pl k).2.2 v ∧ Thaw W2 (pl k).1.B 0 (pl k).2.1 ∧ ¬ S2 (pl k).1.B ∧ closed 3 v = true) → Backs W2 S2 ts xs l) ∧
        (∀ (t : TV) (x : Value) (b n : Nat) (agg : Bool) (u : LV), (t, x) ∈ ts.zip xs → t = .pv n agg u → x = .pointer (some ⟨b, 0, none⟩) → ∃ k ∈ pinsOf j ts, (pl k).1.B = b)
  | [], [], Bs, j, _, hM, _ => by
    refine ⟨ρ00, ⟨⟨rfl, rfl, rfl, Nat.le_refl _, fun _ _ _ => rfl⟩, fun _ h => h, fun _ h => .inl h, hlt, ?_, ?_, ?_⟩, ?_, ?_, fun _ => (⟨0, 0, 0⟩, (0, false)), ?_, ?_, ?_⟩
    · intro k b hb; cases hb
    · intro k b hb; cases hb
    · intro k k' b b' hb; cases hb
    · intro t v hv; cases hv
    · intro k b hb; cases hb
    · intro k hk; cases hk
    · intro W2 S2 l hl _
      cases l with
      | nil => rfl
      | cons v l => simp [pinsOf] at hl
    · intro t x b n agg u hz; simp at hz
  | t :: ts, x :: xs, Bs, j, hRT, hM, htm => by
    obtain ⟨B, Bs', RT, hRT', hbs⟩ := hRT
    have hsub : ∀ b ∈ Bs', b ∈ Bs := fun b hb => by
      cases B with
      | none => exact (show Bs = Bs' from hbs) ▸ hb
      | some b0 => rw [hbs.1]; exact List.mem_cons_of_mem _ hb
    obtain ⟨ρ, H, E, hk, pl, hp, hback, hzip⟩ := enters_ok (M := M) hlt ts xs Bs' (j + 1) hRT' (fun b hb => hM b (hsub b hb)) (fun i y hy => by have := htm (i + 1) y (by simpa using hy); rwa [show j + 1 + i = j + (i + 1) by omega])
    have hx : a.tmps[j]? = some x := by have := htm 0 x rfl; simpa using this
    have hk' : ∀ k b, aget k (enters (j + 1) ts).heap = some b → 4 * j ≤ k ∧ (ρ k).B ∈ Bs := fun k b hb => ⟨by have := (hk k b hb).1; omega, hsub _ (hk k b hb).2⟩
    have hp' : ∀ k ∈ pinsOf (j + 1) ts, 4 * j ≤ k ∧ ρ k = (pl k).1 ∧ ∃ b, aget k (enters (j + 1) ts).heap = some b ∧ b.varOf = some (pl k).2 := fun k hk => by
      obtain ⟨h1, h2⟩ := hp k hk; exact ⟨by omega, h2⟩
    have zip0 : (∀ n agg u, t ≠ .pv n agg u) → ∀ (t' : TV) (x' : Value) (b n : Nat) (agg : Bool) (u : LV), (t', x') ∈ (t :: ts).zip (x :: xs) → t' = .pv n agg u → x' = .pointer (some ⟨b, 0, none⟩) → ∃ k ∈ pinsOf (j + 1) ts, (pl k).1.B = b := fun hne t' x' b n agg u hz ht hx' => by
      rw [List.zip_cons_cons] at hz
      rcases List.mem_cons.1 hz with h0 | h0
      · cases h0; exact absurd ht (hne n agg u)
      · exact hzip t' x' b n agg u h0 ht hx'
    cases t with
    | fz fe =>
      obtain ⟨_, Rx⟩ := RT
      refine ⟨ρ, H, fun t v hv => ?_, hk', pl, hp', fun W2 S2 l hl hh => hback W2 S2 l hl hh, zip0 (fun _ _ _ h => by cases h)⟩
      have hv' : aget t (aset j (.fz fe) (enters (j + 1) ts).env) = some v := hv
      rw [aget_aset] at hv'
      by_cases hjt : j = t
      · subst hjt; rw [if_pos rfl] at hv'; cases hv'; exact ⟨x, hx, .fz Rx⟩
      · rw [if_neg hjt] at hv'; exact E t v hv'
    | em => exact ⟨ρ, H, E, hk', pl, hp', fun W2 S2 l hl hh => hback W2 S2 l hl hh, zip0 (fun _ _ _ h => by cases h)⟩
    | uq sz agg ys => exact ⟨ρ, H, E, hk', pl, hp', fun W2 S2 l hl hh => hback W2 S2 l hl hh, zip0 (fun _ _ _ h => by cases h)⟩
    | pv n agg v =>
      obtain ⟨b, rfl, rfl, V, thaw, hnS, hcl⟩ := RT
      obtain ⟨hbs, hnm⟩ := hbs
      have hnone : aget (4 * j) (enters (j + 1) ts).heap = none := by
        cases hg : aget (4 * j) (enters (j + 1) ts).heap with
        | none => rfl
        | some c => have := (hk _ _ hg).1; omega
      obtain ⟨H2, L2⟩ := H.add (key := 4 * j) (p := ⟨b, 0, n⟩) (b := .var n agg v) hnone rfl (.inr (hM b (by rw [hbs]; exact List.mem_cons_self))) (fun k c hc ho he => hnm (by have := (hk k c hc).2; rw [he] at this; exact this))
        (fun ρ' h' L => ⟨hnS, rfl, V.closed (fun _ h => h) (fun _ _ => rfl) rfl (Nat.le_refl _) hcl, thaw⟩)
      have ne : ∀ k ∈ pinsOf (j + 1) ts, k ≠ 4 * j := fun k hk => by have := (hp k hk).1; omega
      refine ⟨upd ρ (4 * j) ⟨b, 0, n⟩, H2, fun t u hu => ?_, fun k c hc => ?_, fun k => if k = 4 * j then (⟨b, 0, n⟩, (n, agg)) else pl k, fun k hk => ?_, fun W2 S2 l hl hh => ?_, fun t' x' b' n' agg' u' hz ht hx' => ?_⟩
      · have hu' : aget t (aset j (.ptr (4 * j) 0 0) (enters (j + 1) ts).env) = some u := hu
        rw [aget_aset] at hu'
        by_cases hjt : j = t
        · subst hjt; rw [if_pos rfl] at hu'; cases hu'
          exact ⟨_, hx, .ptr _ _ _ _ (.var n agg v) (by show aget (4 * j) (aset (4 * j) _ _) = _; rw [aget_aset, if_pos rfl]) (fun _ _ _ h => by cases h) (fun m g h => by cases h; simp [upd]) rfl⟩
        · rw [if_neg hjt] at hu'
          obtain ⟨y, hy, Ry⟩ := E t u hu'
          exact ⟨y, hy, Ry.later L2⟩
      · have hc' : aget k (aset (4 * j) (.var n agg v) (enters (j + 1) ts).heap) = some c := hc
        rw [aget_aset] at hc'
        by_cases hjk : 4 * j = k
        · subst hjk; exact ⟨Nat.le_refl _, by simp [upd, hbs]⟩
        · rw [if_neg hjk] at hc'
          obtain ⟨h1, h2⟩ := hk' k c hc'
          exact ⟨h1, by simp only [upd]; rw [if_neg (fun e => hjk e.symm)]; exact h2⟩
      · have hg : ∀ k', aget k' (((enters (j + 1) ts).set (4 * j) (.var n agg v)).put j (.ptr (4 * j) 0 0)).heap = if 4 * j = k' then some (.var n agg v) else aget k' (enters (j + 1) ts).heap := fun k' => aget_aset _ _ _ _
        rcases List.mem_cons.1 hk with rfl | hk
        · exact ⟨Nat.le_refl _, by simp [upd], .var n agg v, by simp only [enters]; rw [hg, if_pos rfl], by simp [Blk.varOf]⟩
        · obtain ⟨h1, h2, b', h3, h4⟩ := hp' k hk
          refine ⟨h1, by simp only [upd]; rw [if_neg (ne k hk), if_neg (ne k hk)]; exact h2, b', by simp only [enters]; rw [hg, if_neg (fun e => ne k hk e.symm)]; exact h3, by dsimp only; rw [if_neg (ne k hk)]; exact h4⟩
      · cases l with
        | nil => simp [pinsOf] at hl
        | cons v0 l =>
          obtain ⟨q1, q2, q3, q4⟩ := hh 0 (4 * j) v0 rfl rfl
          simp only [if_true] at q1 q2 q3
          refine ⟨b, v0, l, rfl, rfl, q1, q2, q3, q4, hback W2 S2 l (by simpa [pinsOf] using hl) (fun i k v hi hv => ?_)⟩
          have := hh (i + 1) k v (by simpa [pinsOf] using hi) (by simpa using hv)
          dsimp only at this
          rwa [if_neg (ne k (List.mem_of_getElem? hi))] at this
      · rw [List.zip_cons_cons] at hz
        rcases List.mem_cons.1 hz with h0 | h0
        · cases h0
          cases hx'
          exact ⟨4 * j, by simp [pinsOf], by simp⟩
        · obtain ⟨k, h1, h2⟩ := hzip t' x' b' n' agg' u' h0 ht hx'
          exact ⟨k, by simp [pinsOf, h1], by dsimp only; rw [if_neg (ne k h1)]; exact h2⟩
  | [], _ :: _, _, _, h, _, _ => h.elim
  | _ :: _, [], _, _, h, _, _ => h.elim
def resOne (tmps : Array Value) : ResultVar → Sem Value
  | .tmp t => pure (tmps.getD t undef)
  | .cell a t => do loadVar t (← asAddr (tmps.getD a undef))
theorem results_eq (fn : Func) (tmps : Array Value) : results fn tmps = (do let vs ← fn.results.mapM (resOne tmps); pure (if h : vs.size = 1 then vs[0] else .tuple vs)) := by
  unfold results
  have : (fun (x : ResultVar) => match x with | .tmp t => (pure (tmps.getD t undef) : Sem Value) | .cell a t => do loadVar t (← asAddr (tmps.getD a undef))) = resOne tmps := by
    funext x; cases x <;> rfl
  rw [← this]
  rfl
theorem leaves_ok (I : HInv W0 S0 M W S ρ st.heap) (E : EInv W S ρ st.heap st.env a) {r : Ans} : ∀ (rs : List ResultVar) (ms : List Mode) (l : List (RV × Mode)) {K : List LV → Option Ans}, compRes P rs ms = some l → leaves R st (l.map Prod.fst) K = some r →
    ∃ (vs : List LV) (ys : List Value), K vs = some r ∧ vs.length = rs.length ∧ ys.length = rs.length ∧ (∀ (j : Nat) (v : LV) (x : Value), vs[j]? = some v → ys[j]? = some x → RepL W S ρ st.heap v x) ∧
      (rs.mapM (resOne a.tmps)).run P W = .ok ys W
  | [], ms, l, K, hc, e => by
    cases ms with
    | nil => cases hc; exact ⟨[], [], e, rfl, rfl, fun j v x hv _ => by simp at hv, by simp⟩
    | cons m ms => cases hc
  | .tmp t :: rs, ms, l, K, hc, e => by
    cases ms with
    | nil => cases hc
    | cons m ms =>
    simp only [compRes] at hc
    obtain ⟨l', hl', rfl⟩ := Option.map_eq_some_iff.1 hc
    simp only [List.map_cons, leaves] at e
    obtain ⟨v, e, Rv⟩ := ev_ok (x := .tmp t) E rfl e
    obtain ⟨vs, ys, hk, h1, h2, h3, h4⟩ := leaves_ok I E rs ms l' hl' e
    refine ⟨v :: vs, a.tmps.getD t undef :: ys, hk, by simp [h1], by simp [h2], fun j u x hu hx => ?_, ?_⟩
    · cases j with
      | zero => simp only [List.getElem?_cons_zero, Option.some.injEq] at hu hx; subst hu; subst hx; exact Rv
      | succ j => exact h3 j u x (by simpa using hu) (by simpa using hx)
    · simp only [List.mapM_cons, Sem.run_bind, resOne, Sem.run_pure, Result.andThen_ok, h4]
  | .cell c t :: rs, ms, l, K, hc, e => by
    cases ms with
    | nil => cases hc
    | cons m ms =>
    simp only [compRes] at hc
    split at hc <;> cases hc
    rename_i n agg l' hz hl'
    simp only [List.map_cons, leaves] at e
    obtain ⟨v, B, off, z, e, hp, hload, Rv⟩ := load_core (P := P) (x := .tmp c) I E hz rfl e
    obtain ⟨vs, ys, hk, h1, h2, h3, h4⟩ := leaves_ok I E rs ms l' hl' e
    have hp' : a.tmps.getD c undef = .pointer (some ⟨B, off, none⟩) := hp
    refine ⟨v :: vs, z :: ys, hk, by simp [h1], by simp [h2], fun j u x hu hx => ?_, ?_⟩
    · cases j with
      | zero => simp only [List.getElem?_cons_zero, Option.some.injEq] at hu hx; subst hu; subst hx; exact Rv
      | succ j => exact h3 j u x (by simpa using hu) (by simpa using hx)
    · have ha : asAddr (.pointer (some ⟨B, off, none⟩)) = (pure ⟨B, off, none⟩ : Sem Addr) := rfl
      simp only [List.mapM_cons, Sem.run_bind, resOne, hp', ha, Sem.run_pure, Result.andThen_ok, hload, h4]
theorem pinned_ok {h : Heap} {r : Ans} : ∀ (ks : List Nat) {K : List LV → Option Ans}, pinned h ks K = some r → ∃ l, K l = some r ∧ l.length = ks.length ∧ ∀ (j k : Nat) (v : LV), ks[j]? = some k → l[j]? = some v → ∃ n agg, aget k h = some (.var n agg v) ∧ closed 3 v = true
  | [], K, e => ⟨[], e, rfl, fun j k v hk _ => by simp at hk⟩
  | k :: ks, K, e => by
    simp only [pinned] at e
    split at e
    · rename_i n agg v hk
      obtain ⟨hc, e⟩ := when_some e
      obtain ⟨l, e, h1, h2⟩ := pinned_ok ks e
      refine ⟨v :: l, e, by simp [h1], fun j k' u hj hu => ?_⟩
      cases j with
      | zero => simp at hj hu; subst hj; subst hu; exact ⟨n, agg, hk, hc⟩
      | succ j => exact h2 j k' u (by simpa using hj) (by simpa using hu)
    · cases e
theorem oneV_run (ys : List Value) : (if h : ys.toArray.size = 1 then ys.toArray[0] else .tuple ys.toArray) = oneV ys := by
  match ys with
  | [] => rfl
  | [y] => rfl
  | y :: y' :: ys => simp [oneV]
theorem repTs_notS {W : World} {S : Nat → Prop} : ∀ {ts : List TV} {xs : List Value} {Bs : List Nat}, RepTs W S ts xs Bs → ∀ b ∈ Bs, ¬ S b
  | [], [], Bs, h, b, hb => by simp only [RepTs] at h; subst h; cases hb
  | t :: ts, x :: xs, Bs, h, b, hb => by
    obtain ⟨B, Bs', RT, h', hB⟩ := h
    cases B with
    | none => simp only at hB; subst hB; exact repTs_notS h' b hb
    | some c =>
      simp only at hB
      obtain ⟨rfl, _⟩ := hB
      rcases List.mem_cons.1 hb with rfl | hb
      · cases t with
        | fz e => cases RT.1
        | em => cases RT.1
        | uq sz agg xs => obtain ⟨p, hp, _, _, _, hn⟩ := RT; cases hp; exact hn
        | pv n agg v => obtain ⟨b', hp, _, _, _, hn, _⟩ := RT; cases hp; exact hn
      · exact repTs_notS h' b hb
  | [], _ :: _, _, h, _, _ => h.elim
  | _ :: _, [], _, h, _, _ => h.elim
theorem callF_ok (hR : OkR P R) {k f : Nat} {af : AFunc} {fn : Func} {live : Code → List Nat × List Nat} (hfn : P.funcs[f]? = some fn) (hc : compF P modes live f fn = some af) {ts : List TV} {r : Ans} (e : callF R k af ts = some r) : CallOK P f ts r := by
  intro W S args Bs hlt hglob hRT
  unfold compF at hc
  split at hc
  · rename_i c hbody
    split at hc
    · rename_i b l hb hl
      split at hc
      · cases hc
        unfold callF at e
        obtain ⟨hguard, e⟩ := when_some e
        simp only [Bool.and_eq_true, beq_iff_eq] at hguard
        have hnp : fn.params.size + fn.nfree < 1000 := by have := hguard.2; simpa using this
        let a0 : Act := { tmps := args ++ Array.replicate (fn.ntmps - args.size) undef, defers := [] }
        obtain ⟨ρ, H, E, hkeys, pl, hp, hback, hzip⟩ := enters_ok (M := (· ∈ Bs)) (a := a0) hlt ts args.toList Bs 0 hRT (fun _ h => h) (fun i x hx => by
          have hi : i < args.size := by have := (List.getElem?_eq_some_iff.1 hx).1; simpa using this
          rw [Nat.zero_add]
          show (args ++ _)[i]? = some x
          rw [Array.getElem?_append_left hi]; simpa using hx)
        have plt : ∀ (ts : List TV) (j : Nat), ∀ k ∈ pinsOf j ts, k < 4 * (j + ts.length) := by
          intro ts
          induction ts with
          | nil => intro j k hk; cases hk
          | cons t ts ih =>
            intro j k hk
            cases t with
            | pv n agg v =>
              rcases List.mem_cons.1 hk with rfl | hk
              · simp only [List.length_cons]; omega
              · have := ih (j + 1) k hk; simp only [List.length_cons]; omega
            | fz e => have := ih (j + 1) k hk; simp only [List.length_cons]; omega
            | em => have := ih (j + 1) k hk; simp only [List.length_cons]; omega
            | uq sz agg xs => have := ih (j + 1) k hk; simp only [List.length_cons]; omega
        have hpin : ∀ k ∈ pinsOf 0 ts, k < 4095 := fun k hk => by
          have := plt ts 0 k hk
          have := hguard.1
          omega
        have J : Inv W S (· ∈ Bs) fn.ntmps (pinsOf 0 ts) pl W S ρ (enters 0 ts) a0 := ⟨H, E, by simp [a0]; omega, rfl, fun k hk => by
          obtain ⟨_, h2, b', h3, h4⟩ := hp k hk
          exact ⟨h2, b', h3, .inr h4⟩⟩
        refine calls_of_wp hfn hbody ?_
        refine wp_mono (exec_ok ⟨hR, ⟨hlt, fun b hs hb => repTs_notS hRT b hb hs, hglob⟩⟩ hpin c b hb W S ρ (enters 0 ts) a0 e J) fun e' a' W' hpost => ?_
        obtain ⟨ae, st', S', ρ', rfl, hk, J'⟩ := hpost
        have fin : leaves R st' (l.map Prod.fst) (fun vs => chills st'.heap (pinsOf 0 ts) fun h0 => gives h0 (vs.zip (l.map Prod.snd)) fun gs h => fills h gs fun us ks => pinned h (pinsOf 0 ts) fun l => when (nodupB (ks ++ pinsOf 0 ts)) (some (us, l))) = some r →
            a'.defers = [] ∧ ∃ v, (results fn a'.tmps).run P W' = .ok v W' ∧ AnsOk W S ts args.toList Bs r v W' := fun hk => by
          obtain ⟨vs, ys, hk, h1, h2, h3, h4⟩ := leaves_ok J'.H J'.E _ _ _ hl hk
          have hll : l.length = fn.results.toList.length := by
            have : ∀ (rs : List ResultVar) (ms : List Mode) (l : List (RV × Mode)), compRes P rs ms = some l → l.length = rs.length := by
              intro rs
              induction rs with
              | nil => intro ms l h; cases ms <;> cases h; rfl
              | cons r0 rs ih =>
                intro ms l h
                cases ms with
                | nil => cases r0 <;> cases h
                | cons m ms =>
                  cases r0 with
                  | tmp t =>
                    simp only [compRes] at h
                    obtain ⟨l', hl', rfl⟩ := Option.map_eq_some_iff.1 h
                    simp [ih ms l' hl']
                  | cell c t =>
                    simp only [compRes] at h
                    split at h <;> cases h
                    rename_i hl'
                    simp [ih ms _ hl']
            exact this _ _ _ hl
          obtain ⟨hc0, Sc, hk, Ic, Lc⟩ := chills_ok (pinsOf 0 ts) S' st'.heap J'.H (fun k hk' => by
            obtain ⟨_, b', w2, _⟩ := J'.pin k hk'
            exact ⟨b', w2⟩) hk
          obtain ⟨gs, hh, S1, hk, I1, L1, RG⟩ := gives_ok (vs.zip (l.map Prod.snd)) ys Sc hc0 (by rw [List.length_zip, List.length_map, h1, h2, hll]; simp) Ic (fun j p x hp' hx => by
            rw [List.getElem?_zip_eq_some] at hp'
            exact (h3 j p.1 x hp'.1 hx).later Lc) hk
          replace L1 := Lc.trans L1
          obtain ⟨us, ks, hk, q1, q2, q3, q4, q5⟩ := fills_ok I1 gs ys RG hk
          obtain ⟨pl', hk, p1, p2⟩ := pinned_ok _ hk
          obtain ⟨hn, hk⟩ := when_some hk
          cases hk
          have hn := nodupB_iff.1 hn
          rw [List.nodup_append] at hn
          obtain ⟨n1, n2, n3⟩ := hn
          have hpinAt : ∀ (i k : Nat) (v : LV), (pinsOf 0 ts)[i]? = some k → pl'[i]? = some v → aget k hh = some (.var (pl k).2.1 (pl k).2.2 v) ∧ ρ' k = (pl k).1 ∧ closed 3 v = true := fun i k v hi hv => by
            obtain ⟨n, agg, hg, hcl⟩ := p2 i k v hi hv
            obtain ⟨w1, b', w2, w3⟩ := J'.pin k (List.mem_of_getElem? hi)
            obtain ⟨_, b2, w4, w5⟩ := L1.dom k b' w2
            rw [hg] at w4; cases w4
            refine ⟨?_, w1, hcl⟩
            rcases w5 with h0 | ⟨a1, a2, a3, a4, e1, e2, e3⟩ | ⟨n', agg', e1, e2⟩
            · cases h0
            · cases e2
            · cases e2
              rcases w3 with rfl | w3
              · cases e1
              · rw [e1] at w3
                have := Option.some.inj w3
                rw [hg, ← this]
          refine ⟨J'.dfr, oneV ys, ?_, ⟨S1, ys, ks.map fun k => (ρ' k).B, rfl, fun b hb => I1.sub b hb, I1.sup, I1.lt, q1 n1, fun c hc => ?_, hback W' S1 pl' p1 (fun i k v hi hv => ?_), fun t x b n agg u hz ht hx hcm => ?_⟩, I1.ext⟩
          · rw [results_eq, Array.mapM_eq_mapM_toList]
            simp only [Sem.run_bind, Sem.run_map, h4]
            simp only [Result.andThen_ok, Sem.run_pure]
            rw [oneV_run]
          · obtain ⟨k, hkk, rfl⟩ := List.mem_map.1 hc
            obtain ⟨b', hb', ho⟩ := q2 k hkk
            exact I1.own k b' hb' ho
          · obtain ⟨g1, g2, g3⟩ := hpinAt i k v hi hv
            obtain ⟨r1, r2, r3, r4⟩ := I1.blk k _ g1
            rw [g2] at r1 r2 r3 r4
            exact ⟨r3.closed (fun _ h => h) (fun _ _ => rfl) rfl (Nat.le_refl _) g3, r4, r1, g3⟩
          · obtain ⟨k, hkp, hkb⟩ := hzip t x b n agg u hz ht hx
            obtain ⟨k', hkk, hkb'⟩ := List.mem_map.1 hcm
            obtain ⟨b', hb', ho⟩ := q2 k' hkk
            obtain ⟨i, hi⟩ := List.getElem?_of_mem hkp
            have hil : i < pl'.length := by have := (List.getElem?_eq_some_iff.1 hi).1; omega
            obtain ⟨g1, g2, g3⟩ := hpinAt i k _ hi (List.getElem?_eq_getElem hil)
            refine I1.dis k' k b' _ hb' g1 ho rfl (fun e => n3 k' hkk k hkp e) ?_
            rw [hkb', g2, hkb]
        cases ae with
        | normal => exact fin hk
        | ret => exact fin hk
        | exit id => cases hk
      · cases hc
    · cases hc
  · cases hc
theorem run_ok {lives : Nat → Code → List Nat × List Nat} {tab : Nat → Option AFunc} (T : TabOK P modes lives tab) : ∀ k, OkR P (run tab k)
  | 0 => fun f ts r e => by cases e
  | k + 1 => fun f ts r e => by
    simp only [run] at e
    split at e
    · cases e
    · rename_i af haf
      rcases T f af haf with ⟨fn, hfn, hc⟩ | ⟨fn, p, hp, hfn, hn, hb, hok⟩
      · have hprim : af.prim = none := by
          unfold compF at hc
          split at hc
          · split at hc
            · split at hc
              · cases hc; rfl
              · cases hc
            · cases hc
          · cases hc
        rw [hprim] at e
        refine ⟨⟨fn, hfn, ?_⟩, callF_ok (run_ok T k) hfn hc e⟩
        unfold compF at hc
        split at hc
        · rename_i c hbody
          split at hc
          · split at hc
            · rename_i hname
              exact ⟨hname, by rw [hbody]; rfl⟩
            · cases hc
          · cases hc
        · cases hc
      · rw [hp] at e
        exact ⟨⟨fn, hfn, hn, hb⟩, hok ts r e⟩
end
end Go.Ab
end
section
namespace Go.Ab
inductive CT where
  | int (k : IntKind)
  | bool
  | str
  | sl (e : Nat)
  | bad
  deriving DecidableEq
def flat (P : Program) : Nat → TypeId → List CT
  | 0, _ => [.bad]
  | d + 1, t => match P.underlying t with
    | some (.int k) => [.int k]
    | some .bool => [.bool]
    | some .string => [.str]
    | some (.slice e) => [.sl e]
    | some (.struct fs) => fs.toList.flatMap fun f => flat P d f.type
    | some (.array n e) => (List.replicate n (flat P d e)).flatten
    | _ => [.bad]
def fieldsOk (P : Program) (ok : TypeId → Bool) : Nat → List Field → Bool
  | _, [] => true
  | o, f :: r => f.offset == o && (ok f.type && fieldsOk P ok (o + P.cellsOf f.type) r)
def okT (P : Program) : Nat → TypeId → Bool
  | 0, _ => false
  | d + 1, t => match P.underlying t with
    | some (.int _) => P.cellsOf t == 1
    | some .bool => P.cellsOf t == 1
    | some .string => P.cellsOf t == 1
    | some (.slice _) => P.cellsOf t == 1
    | some (.struct fs) => fieldsOk P (okT P d) 0 fs.toList && P.cellsOf t == (fs.toList.map fun f => P.cellsOf f.type).sum
    | some (.array n e) => okT P d e && P.cellsOf t == n * P.cellsOf e
    | _ => false
def closedT (P : Program) (D : Nat) (es : List Nat) : Bool := es.all fun e => (okT P D e && Nat.blt 0 (P.cellsOf e)) && ((szOf P e).any (fun p => p.1 == P.cellsOf e) && (flat P D e).all fun c => match c with | .sl e' => es.elem e' | .bad => false | _ => true)
def goodT (P : Program) (D : Nat) (es : List Nat) (t : TypeId) : Bool := okT P D t && ((szOf P t).any (fun p => p.1 == P.cellsOf t) && (flat P D t).all fun c => match c with | .sl e' => es.elem e' | .bad => false | _ => true)
inductive WC (P : Program) (D : Nat) (B : Nat) : CT → FV → Prop
  | int (k : IntKind) (n : Int) (h : (Lit.int k n).wf = true) : WC P D B (.int k) (.int k n)
  | bool (b : Bool) : WC P D B .bool (.bool b)
  | str (s : ByteArray) (h : s.size ≤ B) : WC P D B .str (.str s)
  | sl (e : Nat) (es : List FV) (hl : es.length ≤ maxLen) (hb : es.length * P.bytesOf e ≤ B) (hf : ∀ x ∈ es, ∃ n agg, szOf P e = some (n, agg) ∧ x.fits n agg = true)
      (h : ∀ x ∈ es, ∀ (j : Nat) (y : FV) (c : CT), x.cells[j]? = some y → (flat P D e)[j]? = some c → WC P D B c y) : WC P D B (.sl e) (.sl es)
def WV (P : Program) (D : Nat) (B : Nat) (t : TypeId) (x : FV) : Prop := (∃ n agg, szOf P t = some (n, agg) ∧ x.fits n agg = true) ∧ ∀ (j : Nat) (y : FV) (c : CT), x.cells[j]? = some y → (flat P D t)[j]? = some c → WC P D B c y
section
variable {P : Program}
theorem fieldsOk_sum {ok : TypeId → Bool} : ∀ {fs : List Field} {o : Nat}, fieldsOk P ok o fs = true → ∀ f ∈ fs, ok f.type = true
  | g :: fs, o, h, f, hf => by
    simp only [fieldsOk, Bool.and_eq_true] at h
    rcases List.mem_cons.1 hf with rfl | hf
    · exact h.2.1
    · exact fieldsOk_sum h.2.2 f hf
theorem flat_length : ∀ (d : Nat) (t : TypeId), okT P d t = true → (flat P d t).length = P.cellsOf t
  | 0, t, h => by cases h
  | d + 1, t, h => by
    unfold okT at h
    unfold flat
    cases hu : P.underlying t with
    | none => rw [hu] at h; cases h
    | some ds =>
      rw [hu] at h
      cases ds with
      | int k => have := beq_iff_eq.1 h; simp [this]
      | bool => have := beq_iff_eq.1 h; simp [this]
      | string => have := beq_iff_eq.1 h; simp [this]
      | slice e => have := beq_iff_eq.1 h; simp [this]
      | struct fs =>
        simp only [Bool.and_eq_true, beq_iff_eq] at h
        rw [h.2, List.length_flatMap]
        congr 1
        apply List.map_congr_left
        intro f hf
        exact flat_length d f.type (fieldsOk_sum h.1 f hf)
      | array n e =>
        simp only [Bool.and_eq_true, beq_iff_eq] at h
        rw [h.2]
        simp [flat_length d e h.1]
      | _ => simp at h
theorem field_of {ok : TypeId → Bool} {fl : TypeId → List CT} (hfl : ∀ t, ok t = true → (fl t).length = P.cellsOf t) : ∀ {fs : List Field} {o j : Nat} {c : CT}, fieldsOk P ok o fs = true → (fs.flatMap fun f => fl f.type)[j]? = some c →
    ∃ (i : Nat) (f : Field), fs[i]? = some f ∧ f.offset ≤ o + j ∧ o + j < f.offset + P.cellsOf f.type ∧ (fl f.type)[o + j - f.offset]? = some c ∧ ok f.type = true
  | [], o, j, c, h, hc => by simp at hc
  | f :: fs, o, j, c, h, hc => by
    simp only [fieldsOk, Bool.and_eq_true, beq_iff_eq] at h
    obtain ⟨h1, h2, h3⟩ := h
    simp only [List.flatMap_cons] at hc
    have hl := hfl f.type h2
    by_cases hj : j < (fl f.type).length
    · rw [List.getElem?_append_left hj] at hc
      exact ⟨0, f, rfl, by omega, by omega, by rw [show o + j - f.offset = j by omega]; exact hc, h2⟩
    · rw [List.getElem?_append_right (by omega)] at hc
      obtain ⟨i, g, q1, q2, q3, q4, q5⟩ := field_of hfl h3 hc
      refine ⟨i + 1, g, q1, by omega, by omega, ?_, q5⟩
      rw [show o + j - g.offset = o + P.cellsOf f.type + (j - (fl f.type).length) - g.offset by omega]; exact q4
theorem rep_get {α : Type} {l : List α} {c : α} : ∀ {n j : Nat}, ((List.replicate n l).flatten)[j]? = some c → ∃ i q, i < n ∧ j = i * l.length + q ∧ l[q]? = some c
  | 0, j, h => by simp at h
  | n + 1, j, h => by
    simp only [List.replicate_succ, List.flatten_cons] at h
    by_cases hj : j < l.length
    · rw [List.getElem?_append_left hj] at h
      exact ⟨0, j, by omega, by simp, h⟩
    · rw [List.getElem?_append_right (by omega)] at h
      obtain ⟨i, q, h1, h2, h3⟩ := rep_get h
      exact ⟨i + 1, q, by omega, by rw [Nat.add_mul]; omega, h3⟩
theorem weightsAll_mem2 {H : Type} {t : TypeId} : ∀ {l : List (DataW H)} {d : DataW H}, d ∈ l → ∀ n ∈ d.weights P t, n ∈ DataW.weightsAll P t l
  | a :: l, d, h, n, hn => by
    rcases List.mem_cons.1 h with rfl | h
    · exact List.mem_append_left _ hn
    · exact List.mem_append_right _ (weightsAll_mem2 h n hn)
theorem weightsEach_mem2 {H : Type} : ∀ {ts : List TypeId} {l : List (DataW H)} {i : Nat} {t : TypeId} {d : DataW H}, ts[i]? = some t → l[i]? = some d → ∀ n ∈ d.weights P t, n ∈ DataW.weightsEach P ts l :=
  fun {ts l i t d} h1 h2 n hn => DataW.weights_mem_each (j := i) h1 h2 n hn
set_option maxHeartbeats 1000000 in
theorem read_cells {D B : Nat} {es : List Nat} (hcl : closedT P D es = true) {H : Type} (enc : TypeId × Value → H) (W : World) : ∀ (fuel d : Nat) (t : TypeId) (cs : List Value) (x : DataW H × List MemPlace),
    okT P d t = true → (∀ c ∈ flat P d t, match c with | .sl e' => e' ∈ es | .bad => False | _ => True) → DataW.trod enc P W 0 (fun _ => true) true fuel t cs = some x → (∀ n ∈ x.1.weights P t, n ≤ B) →
    cs.length = P.cellsOf t ∧ ∀ (j : Nat) (c : CT), (flat P d t)[j]? = some c → ∃ v f, cs[j]? = some v ∧ v.oneCell' = true ∧ Rep W (fun b => b < W.heap.size) f v ∧ WC P D B c f ∧ (∀ cs, f ≠ .ag cs) := by
  intro fuel
  induction fuel using Nat.strongRecOn with
  | ind fuel ih =>
    intro d t cs x hok hfl h hw
    cases d with
    | zero => cases hok
    | succ d =>
    have hlenT := flat_length (d + 1) t hok
    unfold okT at hok
    unfold flat at hfl hlenT ⊢
    cases hu : P.underlying t with
    | none => rw [hu] at hok; cases hok
    | some ds =>
      rw [hu] at hok hfl hlenT
      have one : ∀ {v : Value} {f : FV} {c : CT}, cs = [v] → P.cellsOf t = 1 → v.oneCell' = true → Rep W (fun b => b < W.heap.size) f v → WC P D B c f → (∀ cs, f ≠ .ag cs) →
          cs.length = P.cellsOf t ∧ ∀ (j : Nat) (c' : CT), [c][j]? = some c' → ∃ v f, cs[j]? = some v ∧ v.oneCell' = true ∧ Rep W (fun b => b < W.heap.size) f v ∧ WC P D B c' f ∧ (∀ cs, f ≠ .ag cs) := fun {v f c} h1 h2 h3 h4 h5 h6 => by
        refine ⟨by rw [h1, h2]; rfl, fun j c' hj => ?_⟩
        cases j with
        | zero => simp at hj; subst hj; exact ⟨v, f, by rw [h1]; rfl, h3, h4, h5, h6⟩
        | succ j => simp at hj
      cases ds with
      | int k =>
        have hc1 : P.cellsOf t = 1 := by simpa using hok
        cases fuel with
        | zero => simp [DataW.trod] at h
        | succ n =>
          rw [DataW.trod_step] at h
          unfold DataW.trodStep at h
          simp only [hu] at h
          split at h <;> first | contradiction | skip
          all_goals simp_all
          obtain ⟨⟨rfl, h1⟩, h2⟩ := h
          exact one rfl rfl (.int _ _) (.int _ _ h1) (fun cs h => by cases h)
      | bool =>
        have hc1 : P.cellsOf t = 1 := by simpa using hok
        cases fuel with
        | zero => simp [DataW.trod] at h
        | succ n =>
          rw [DataW.trod_step] at h
          unfold DataW.trodStep at h
          simp only [hu] at h
          split at h <;> first | contradiction | skip
          all_goals first | exact one rfl hc1 rfl (.bool _) (.bool _) (fun cs h => by cases h) | (exfalso; simp_all; done)
      | string =>
        have hc1 : P.cellsOf t = 1 := by simpa using hok
        cases fuel with
        | zero => simp [DataW.trod] at h
        | succ n =>
          rw [DataW.trod_step] at h
          unfold DataW.trodStep at h
          simp only [hu] at h
          split at h <;> first | contradiction | skip
          all_goals simp_all
          obtain ⟨h1, rfl⟩ := h
          have := hw _ (by simp [DataW.weights]; rfl)
          exact one rfl rfl (.str _) (.str _ this) (fun cs h => by cases h)
      | slice e =>
        have hc1 : P.cellsOf t = 1 := by simpa using hok
        have he : e ∈ es := by have := hfl (.sl e) (by simp); exact this
        have hE := List.all_eq_true.1 hcl e he
        simp only [Bool.and_eq_true] at hE
        obtain ⟨⟨hE1, hE0⟩, hE2, hE3⟩ := hE
        have hE0 : 0 < P.cellsOf e := by simpa using hE0
        obtain ⟨⟨sz, agg⟩, hsz, hsc⟩ : ∃ p, szOf P e = some p ∧ (p.1 == P.cellsOf e) = true := by
          cases hz : szOf P e with
          | none => rw [hz] at hE2; cases hE2
          | some p => rw [hz] at hE2; exact ⟨p, rfl, by simpa using hE2⟩
        have hsc : sz = P.cellsOf e := by simpa using hsc
        have hEfl : ∀ c ∈ flat P D e, match c with | .sl e' => e' ∈ es | .bad => False | _ => True := fun c hc => by
          have := List.all_eq_true.1 hE3 c hc
          cases c <;> simp_all
        rcases DataW.trod_slice hu h with ⟨rfl, rfl⟩ | ⟨ad, len, cap, elems, rest, n, rfl, rfl, rfl, _, hl, hm, hlen, hel, _, _⟩
        · exact one rfl hc1 rfl (.sl0 _ _) (.sl e [] (Nat.zero_le _) (by rw [List.length_nil, Nat.zero_mul]; exact Nat.zero_le _) (fun x hx => by cases hx) (fun x hx => by cases hx)) (fun cs h => by cases h)
        · have hw1 : ∀ z ∈ elems, ∀ k ∈ z.1.weights P e, k ≤ B := by
            intro z hz k hk
            refine hw k ?_
            simp only [DataW.weights, hu]
            exact List.mem_cons_of_mem _ (List.mem_append_left _ (weightsAll_mem2 (List.mem_map_of_mem (f := (·.1)) hz) k hk))
          have hlen2 : len * P.bytesOf e ≤ B := by
            have := hw ((elems.length + rest.length) * P.bytesOf e) (by simp [DataW.weights, hu])
            rw [hlen] at this
            exact Nat.le_trans (Nat.mul_le_mul_right _ (Nat.le_add_right _ _)) this
          have hEl := flat_length D e hE1
          -- each element
          have hx : ∀ i, i < len → ∃ f : FV, f.fits sz agg = true ∧ (∀ (j : Nat) (y : FV) (c : CT), f.cells[j]? = some y → (flat P D e)[j]? = some c → WC P D B c y) ∧
              ∀ j, j < sz → ∃ v, W.cell? ((ad.add (i * P.cellsOf e)).add j) = some v ∧ v.oneCell' = true ∧ (ad.add (i * P.cellsOf e)).block < W.heap.size ∧ ∀ y, f.cells[j]? = some y → Rep W (fun b => b < W.heap.size) y v := by
            intro i hi
            have h1 := hel i hi
            rw [List.getElem?_eq_getElem (by omega)] at h1
            obtain ⟨cs', h2, h3⟩ := Option.bind_eq_some_iff.1 h1
            obtain ⟨g1, g2⟩ := ih n (Nat.lt_succ_self n) D e cs' _ hE1 hEfl h3 (hw1 _ (List.getElem_mem _))
            obtain ⟨_, hlen3, hcell⟩ := World.cells?_some h2
            have hx2 : ∀ j, j < sz → ∃ v f c, cs'[j]? = some v ∧ v.oneCell' = true ∧ Rep W (fun b => b < W.heap.size) f v ∧ (flat P D e)[j]? = some c ∧ WC P D B c f ∧ (∀ cs, f ≠ .ag cs) := fun j hj => by
              have hjl : j < (flat P D e).length := by omega
              obtain ⟨v, f, q1, q2, q3, q4, q5⟩ := g2 j _ (List.getElem?_eq_getElem hjl)
              exact ⟨v, f, _, q1, q2, q3, List.getElem?_eq_getElem hjl, q4, q5⟩
            have hx3 : ∃ F : (j : Nat) → j < sz → FV, ∀ j (hj : j < sz), ∃ v c, cs'[j]? = some v ∧ v.oneCell' = true ∧ Rep W (fun b => b < W.heap.size) (F j hj) v ∧ (flat P D e)[j]? = some c ∧ WC P D B c (F j hj) ∧ (∀ cs, F j hj ≠ .ag cs) :=
              ⟨fun j hj => Classical.choose (Classical.choose_spec (hx2 j hj)), fun j hj => by
                obtain ⟨c, q⟩ := Classical.choose_spec (Classical.choose_spec (hx2 j hj))
                exact ⟨_, c, q⟩⟩
            obtain ⟨F, hF⟩ := hx3
            have cellAt : ∀ j, j < sz → ∀ v, cs'[j]? = some v → W.cell? ((ad.add (i * P.cellsOf e)).add j) = some v ∧ (ad.add (i * P.cellsOf e)).block < W.heap.size := fun j hj v hv => by
              have hc := hcell j (by omega)
              rw [hv] at hc
              refine ⟨hc, ?_⟩
              rcases Nat.lt_or_ge (ad.add (i * P.cellsOf e)).block W.heap.size with hb | hb
              · exact hb
              · exfalso
                have hblk : ((ad.add (i * P.cellsOf e)).add j).block = (ad.add (i * P.cellsOf e)).block := by unfold Addr.add; split <;> rfl
                simp only [World.cell?, hblk, Array.getElem?_eq_none hb] at hc
                cases hc
            cases agg with
            | true =>
              let l : List FV := List.ofFn (fun j : Fin sz => F j.1 j.2)
              have hll : l.length = sz := List.length_ofFn
              have lget : ∀ (j : Nat) (y : FV), l[j]? = some y → ∃ hj : j < sz, y = F j hj := fun j y hy => by
                have hj : j < sz := by have := (List.getElem?_eq_some_iff.1 hy).1; omega
                refine ⟨hj, ?_⟩
                rw [List.getElem?_eq_getElem (by omega)] at hy
                cases hy
                simp [l]
              refine ⟨.ag l, by simp [FV.fits, FV.isAg, hll], fun j y c hy hc => ?_, fun j hj => ?_⟩
              · obtain ⟨hj, rfl⟩ := lget j y hy
                obtain ⟨v, c', _, _, _, q4, q5, _⟩ := hF j hj
                rw [hc] at q4; cases q4; exact q5
              · obtain ⟨v, c', q1, q2, q3, _, _, _⟩ := hF j hj
                obtain ⟨p1, p2⟩ := cellAt j hj v q1
                exact ⟨v, p1, q2, p2, fun y hy => by obtain ⟨_, rfl⟩ := lget j y hy; exact q3⟩
            | false =>
              obtain rfl := (szOf_run hsz default).2.2 rfl
              obtain ⟨v, c', q1, q2, q3, q4, q5, q6⟩ := hF 0 (by omega)
              have hfit : (F 0 (by omega)).fits 1 false = true := by
                cases hff : F 0 (by omega) <;> simp [FV.fits]
                exact q6 _ hff
              have hcs := (fits_one hfit).2.2
              refine ⟨F 0 (by omega), hfit, fun j y c hy hc => ?_, fun j hj => ?_⟩
              · rw [hcs] at hy
                cases j with
                | zero => simp at hy; subst hy; rw [hc] at q4; cases q4; exact q5
                | succ j => simp at hy
              · obtain rfl : j = 0 := by omega
                obtain ⟨p1, p2⟩ := cellAt 0 hj v q1
                exact ⟨v, p1, q2, p2, fun y hy => by rw [hcs] at hy; simp at hy; subst hy; exact q3⟩
          have hx2 : ∃ F : (i : Nat) → i < len → FV, ∀ i (hi : i < len), (F i hi).fits sz agg = true ∧ (∀ (j : Nat) (y : FV) (c : CT), (F i hi).cells[j]? = some y → (flat P D e)[j]? = some c → WC P D B c y) ∧
              ∀ j, j < sz → ∃ v, W.cell? ((ad.add (i * P.cellsOf e)).add j) = some v ∧ v.oneCell' = true ∧ (ad.add (i * P.cellsOf e)).block < W.heap.size ∧ ∀ y, (F i hi).cells[j]? = some y → Rep W (fun b => b < W.heap.size) y v :=
            ⟨fun i hi => Classical.choose (hx i hi), fun i hi => Classical.choose_spec (hx i hi)⟩
          obtain ⟨F, hF⟩ := hx2
          let l : List FV := List.ofFn (fun i : Fin len => F i.1 i.2)
          have ll : l.length = len := List.length_ofFn
          have lget : ∀ (i : Nat) (f : FV), l[i]? = some f → ∃ hi : i < len, f = F i hi := fun i f hf => by
            have hi : i < len := by have := (List.getElem?_eq_some_iff.1 hf).1; omega
            refine ⟨hi, ?_⟩
            rw [List.getElem?_eq_getElem (by omega)] at hf
            cases hf
            simp [l]
          have lmem : ∀ f ∈ l, ∃ i, ∃ hi : i < len, f = F i hi := fun f hf => by
            obtain ⟨i, hi⟩ := List.getElem?_of_mem hf
            obtain ⟨h1, h2⟩ := lget i f hi
            exact ⟨i, h1, h2⟩
          have hWC : WC P D B (.sl e) (.sl l) := .sl e l (by rw [ll]; exact Nat.le_trans hl hm) (by rw [ll]; exact hlen2) (fun f hf => by obtain ⟨i, hi, rfl⟩ := lmem f hf; exact ⟨sz, agg, hsz, (hF i hi).1⟩)
            (fun f hf j y c hy hc => by obtain ⟨i, hi, rfl⟩ := lmem f hf; exact (hF i hi).2.1 j y c hy hc)
          refine one rfl hc1 rfl ?_ hWC (fun cs h => by cases h)
          by_cases h0 : len = 0
          · subst h0
            have : l = [] := List.eq_nil_of_length_eq_zero ll
            rw [this]; exact .sl0 _ _
          · have hspot : ad.spot = none := by
              obtain ⟨v, p1, _⟩ := (hF 0 (by omega)).2.2 0 (by omega)
              simp only [Nat.zero_mul, Addr.add, if_true] at p1
              simp only [World.cell?] at p1
              cases hs : ad.spot with
              | none => rfl
              | some s =>
                rw [hs] at p1
                split at p1
                · simp at p1
                · cases p1
            obtain ⟨B, off, spot⟩ := ad
            simp only at hspot
            subst hspot
            simp only [Addr.add_lit] at hF
            have hgt : ∀ k, k < len * sz → ∃ i j, ∃ hi : i < len, j < sz ∧ k = i * sz + j := fun k hk => by
              refine ⟨k / sz, k % sz, Nat.div_lt_of_lt_mul (by rw [Nat.mul_comm]; exact hk), Nat.mod_lt _ (by omega), ?_⟩
              rw [Nat.mul_comm]; exact (Nat.div_add_mod k sz).symm
            have cellk : ∀ i j (hi : i < len), j < sz → ∃ v, W.cell? ⟨B, off + (i * sz + j), none⟩ = some v ∧ v.oneCell' = true ∧ B < W.heap.size ∧ ∀ y, (F i hi).cells[j]? = some y → Rep W (fun b => b < W.heap.size) y v := fun i j hi hj => by
              obtain ⟨v, p1, p2, p3, p4⟩ := (hF i hi).2.2 j hj
              rw [← hsc, Nat.add_assoc] at p1
              exact ⟨v, p1, p2, p3, p4⟩
            have := Rep.sl (W := W) (S := fun b => b < W.heap.size) l B off cap sz agg (fun k => (W.cell? ⟨B, off + k, none⟩).getD undef)
              (by obtain ⟨_, _, _, p3, _⟩ := cellk 0 0 (by omega) (by omega); exact p3) (by rw [ll]; exact hl) (fun f hf => by obtain ⟨i, hi, rfl⟩ := lmem f hf; exact (hF i hi).1)
              (fun k hk => by
                rw [ll] at hk
                obtain ⟨i, j, hi, hj, rfl⟩ := hgt k hk
                obtain ⟨v, p1, _⟩ := cellk i j hi hj
                rw [p1]; rfl)
              (fun k hk => by
                rw [ll] at hk
                obtain ⟨i, j, hi, hj, rfl⟩ := hgt k hk
                obtain ⟨v, p1, p2, _⟩ := cellk i j hi hj
                rw [p1]; exact p2)
              (fun i f j y hi hj => by
                obtain ⟨hil, rfl⟩ := lget i f hi
                have hjs : j < sz := by have := (List.getElem?_eq_some_iff.1 hj).1; rwa [fits_cells (hF i hil).1] at this
                obtain ⟨v, p1, _, _, p4⟩ := cellk i j hil hjs
                rw [p1]; exact p4 y hj)
            rwa [ll] at this
      | struct fs =>
        simp only [Bool.and_eq_true, beq_iff_eq] at hok
        obtain ⟨xs, n, rfl, rfl, hl, hlen, hf⟩ := DataW.trod_struct hu h
        refine ⟨hl, fun j c hj => ?_⟩
        obtain ⟨i, f, q1, q2, q3, q4, q5⟩ := field_of (P := P) (ok := okT P d) (fl := flat P d) (fun t ht => flat_length d t ht) hok.1 hj
        simp only [Nat.zero_add] at q2 q3 q4
        have hfi : fs[i]? = some f := by simpa using q1
        have hi : i < xs.length := by have := (Array.getElem?_eq_some_iff.1 hfi).1; omega
        have h1 := hf i f hfi
        rw [List.getElem?_eq_getElem hi] at h1
        obtain ⟨g1, g2⟩ := ih n (Nat.lt_succ_self n) d f.type _ _ q5 (fun c hc => hfl c (List.mem_flatMap.2 ⟨f, List.mem_of_getElem? q1, hc⟩)) h1 (fun k hk => by
          refine hw k ?_
          simp only [DataW.weights, hu]
          refine weightsEach_mem2 (i := i) (t := f.type) (d := xs[i].1) (by simp [hfi]) (by simp [hi]) k hk)
        obtain ⟨v, fv, p1, p2, p3, p4, p5⟩ := g2 (j - f.offset) c q4
        refine ⟨v, fv, ?_, p2, p3, p4, p5⟩
        rw [List.getElem?_take] at p1
        split at p1
        · rw [List.getElem?_drop] at p1
          rwa [show f.offset + (j - f.offset) = j by omega] at p1
        · cases p1
      | array n e =>
        simp only [Bool.and_eq_true, beq_iff_eq] at hok
        obtain ⟨xs, m, rfl, rfl, hl, hlen, hf⟩ := DataW.trod_array hu h
        refine ⟨hl, fun j c hj => ?_⟩
        have hel := flat_length d e hok.1
        obtain ⟨i, q, hi, rfl, hq⟩ := rep_get hj
        rw [hel]
        have h1 := hf i hi
        have hix : i < xs.length := by omega
        rw [List.getElem?_eq_getElem hix] at h1
        have hr : (List.replicate n e)[i]? = some e := by simp [hi]
        obtain ⟨g1, g2⟩ := ih m (Nat.lt_succ_self m) d e _ _ hok.1 (fun c hc => hfl c (by
          rw [List.mem_flatten]; exact ⟨flat P d e, List.mem_replicate.2 ⟨by omega, rfl⟩, hc⟩)) h1 (fun k hk => by
          refine hw k ?_
          simp only [DataW.weights, hu]
          exact weightsAll_mem2 (List.mem_map_of_mem (f := (·.1)) (List.getElem_mem hix)) k hk)
        obtain ⟨v, fv, p1, p2, p3, p4, p5⟩ := g2 q c hq
        refine ⟨v, fv, ?_, p2, p3, p4, p5⟩
        rw [List.getElem?_take] at p1
        split at p1
        · rw [List.getElem?_drop] at p1; exact p1
        · cases p1
      | _ => simp at hok
end
end Go.Ab
end
section
namespace Go.Ab
section
variable {P : Program} {W : World} {modes : Nat → List Mode × List Mode} {lives : Nat → Code → List Nat × List Nat} {tab : Nat → Option AFunc}
def RepArgs (W : World) : List FV → List Value → Prop
  | [], [] => True
  | f :: fs, v :: vs => Rep W (fun b => b < W.heap.size) f v ∧ RepArgs W fs vs
  | _, _ => False
theorem repArgs_ts : ∀ {fs : List FV} {vs : List Value}, RepArgs W fs vs → RepTs W (fun b => b < W.heap.size) (fs.map .fz) vs []
  | [], [], _ => rfl
  | f :: fs, v :: vs, h => ⟨none, [], ⟨rfl, h.1⟩, repArgs_ts h.2, rfl⟩
  | [], _ :: _, h => h.elim
  | _ :: _, [], h => h.elim
theorem law_calls (T : TabOK P modes lives tab) {k f : Nat} {fs : List FV} {args : Array Value} (h : run tab k f (fs.map .fz) = some ([.fz (.bool true)], [])) (hG : GlobOK P W (fun b => b < W.heap.size)) (hA : RepArgs W fs args.toList) :
    Calls P f args W fun e W' => e = .returned (.bool true) ∧ RowKit.Below W.heap.size W W' := by
  have C := (run_ok T k f _ _ h).2 W (fun b => b < W.heap.size) args [] (fun _ h => h) hG (repArgs_ts hA)
  refine C.mono fun e W' hp => ?_
  cases e with
  | panicked c => exact hp.elim
  | outgrown => exact hp.elim
  | returned v =>
    obtain ⟨⟨S', ys, Cs, rfl, _, _, _, hR, _, _, _⟩, hext⟩ := hp
    refine ⟨?_, ⟨hext.os, hext.tape, hext.output, hext.size, fun b hb => hext.block b hb (by simp)⟩⟩
    match ys, hR with
    | [y], hR =>
      obtain ⟨B, Bs', RT, hR', _⟩ := hR
      obtain ⟨_, Ry⟩ := RT
      cases Ry
      rfl
    | [], hR => exact hR.elim
    | y :: y' :: ys, hR =>
      obtain ⟨B, Bs', RT, hR', _⟩ := hR
      exact hR'.elim
theorem read_value {D B : Nat} {es : List Nat} (hcl : closedT P D es = true) {t : TypeId} (hg : goodT P D es t = true) {H : Type} {enc : TypeId × Value → H} {r : Reach} {base : Nat} {v : Value} {d : DataW H} {ps : List MemPlace} (hv : Value.okWide P W r base t v)
    (h : DataW.Trod enc P W 0 (fun _ => true) true t v d ps) (hw : ∀ n ∈ d.weights P t, n ≤ B) : ∃ f, Rep W (fun b => b < W.heap.size) f v ∧ WV P D B t f := by
  obtain ⟨fuel, h⟩ := h
  simp only [goodT, Bool.and_eq_true] at hg
  obtain ⟨g1, g2, g3⟩ := hg
  have hfl : ∀ c ∈ flat P D t, match c with | .sl e' => e' ∈ es | .bad => False | _ => True := fun c hc => by
    have := List.all_eq_true.1 g3 c hc
    cases c <;> simp_all
  obtain ⟨q1, q2⟩ := read_cells hcl enc W fuel D t _ _ g1 hfl h hw
  obtain ⟨⟨sz, agg⟩, hsz, hsc⟩ : ∃ p, szOf P t = some p ∧ (p.1 == P.cellsOf t) = true := by
    cases hz : szOf P t with
    | none => rw [hz] at g2; cases g2
    | some p => rw [hz] at g2; exact ⟨p, rfl, by simpa using g2⟩
  have hsc : sz = P.cellsOf t := by simpa using hsc
  have hlen := flat_length D t g1
  have hx2 : ∀ j, j < sz → ∃ u f c, v.cells.toList[j]? = some u ∧ u.oneCell' = true ∧ Rep W (fun b => b < W.heap.size) f u ∧ (flat P D t)[j]? = some c ∧ WC P D B c f ∧ (∀ cs, f ≠ .ag cs) := fun j hj => by
    have hjl : j < (flat P D t).length := by omega
    obtain ⟨u, f, w1, w2, w3, w4, w5⟩ := q2 j _ (List.getElem?_eq_getElem hjl)
    exact ⟨u, f, _, w1, w2, w3, List.getElem?_eq_getElem hjl, w4, w5⟩
  have hx3 : ∃ F : (j : Nat) → j < sz → FV, ∀ j (hj : j < sz), ∃ u c, v.cells.toList[j]? = some u ∧ u.oneCell' = true ∧ Rep W (fun b => b < W.heap.size) (F j hj) u ∧ (flat P D t)[j]? = some c ∧ WC P D B c (F j hj) ∧ (∀ cs, F j hj ≠ .ag cs) :=
    ⟨fun j hj => Classical.choose (Classical.choose_spec (hx2 j hj)), fun j hj => by
      obtain ⟨c, q⟩ := Classical.choose_spec (Classical.choose_spec (hx2 j hj))
      exact ⟨_, c, q⟩⟩
  obtain ⟨F, hF⟩ := hx3
  cases agg with
  | true =>
    obtain ⟨cs, rfl⟩ : ∃ cs, v = .agg cs := by
      cases hu : P.underlying t with
      | none => simp [szOf, hu] at hsz
      | some ds =>
        cases ds with
        | struct fs => obtain ⟨cs, h1, _⟩ := WideShapes.okWide_struct hu hv; exact ⟨cs, h1⟩
        | array n e =>
          simp only [Value.okWide, hu] at hv
          obtain ⟨cs, h1, _⟩ := hv
          exact ⟨cs, h1⟩
        | _ => exfalso; unfold szOf at hsz; rw [hu] at hsz; cases hi : P.info? t <;> rw [hi] at hsz <;> simp at hsz; split at hsz <;> simp at hsz
    let l : List FV := List.ofFn (fun j : Fin sz => F j.1 j.2)
    have hll : l.length = sz := List.length_ofFn
    have lget : ∀ (j : Nat) (y : FV), l[j]? = some y → ∃ hj : j < sz, y = F j hj := fun j y hy => by
      have hj : j < sz := by have := (List.getElem?_eq_some_iff.1 hy).1; omega
      refine ⟨hj, ?_⟩
      rw [List.getElem?_eq_getElem (by omega)] at hy
      cases hy
      simp [l]
    have hcl2 : cs.size = sz := by simp only [Value.cells, Array.length_toList] at q1; omega
    refine ⟨.ag l, .ag l cs (by omega) (fun j u hu => ?_) (fun j f u hf hu => ?_), ⟨sz, true, hsz, by simp [FV.fits, FV.isAg, hll]⟩, fun j y c hy hc => ?_⟩
    · have hj : j < sz := by have := (Array.getElem?_eq_some_iff.1 hu).1; omega
      obtain ⟨u', c, w1, w2, _⟩ := hF j hj
      simp only [Value.cells, Array.getElem?_toList] at w1
      rw [hu] at w1; cases w1; exact w2
    · obtain ⟨hj, rfl⟩ := lget j f hf
      obtain ⟨u', c, w1, _, w3, _⟩ := hF j hj
      simp only [Value.cells, Array.getElem?_toList] at w1
      rw [hu] at w1; cases w1; exact w3
    · obtain ⟨hj, rfl⟩ := lget j y hy
      obtain ⟨u', c', _, _, _, w4, w5, _⟩ := hF j hj
      rw [hc] at w4; cases w4; exact w5
  | false =>
    obtain rfl := (szOf_run hsz default).2.2 rfl
    obtain ⟨u, c, w1, w2, w3, w4, w5, w6⟩ := hF 0 (by omega)
    have hvu : v = u := by
      have hone : v.oneCell' = true := by
        cases v <;> try rfl
        · rename_i cs
          exfalso
          unfold okT at g1
          cases D with
          | zero => cases g1
          | succ D =>
          cases hu : P.underlying t with
          | none => simp [hu] at g1
          | some ds =>
            cases ds with
            | struct fs => unfold szOf at hsz; rw [hu] at hsz; cases hi : P.info? t <;> rw [hi] at hsz <;> simp at hsz
            | array n e => unfold szOf at hsz; rw [hu] at hsz; cases hi : P.info? t <;> rw [hi] at hsz <;> simp at hsz
            | int k => simp [Value.okWide, hu, Cell.okWide, Cell.ok] at hv
            | bool => simp [Value.okWide, hu, Cell.okWide, Cell.ok] at hv
            | string => simp [Value.okWide, hu, Cell.okWide, Cell.ok] at hv
            | slice e => simp [Value.okWide, hu, Cell.okWide, Cell.ok] at hv
            | _ => simp [hu] at g1
        · rename_i vs
          exfalso
          simp only [Value.cells] at w1
          simp at w1
          subst w1; cases w2
      have := cells_one hone
      rw [this] at w1
      simpa using w1
    subst hvu
    have hfit : (F 0 (by omega)).fits 1 false = true := by
      cases hff : F 0 (by omega) <;> simp [FV.fits]
      exact w6 _ hff
    have hcs := (fits_one hfit).2.2
    refine ⟨_, w3, ⟨1, false, hsz, hfit⟩, fun j y c' hy hc => ?_⟩
    rw [hcs] at hy
    cases j with
    | zero => simp at hy; subst hy; rw [hc] at w4; cases w4; exact w5
    | succ j => simp at hy
end
end Go.Ab
end
