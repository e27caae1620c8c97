/- ltype.keys, by hand: a walk over the contracts of slices.Clone, slices.Sort and slices.Compact. No condition. -/
import Derived.Test.YtdpfpdejipkffaaK3
import Derived.Test.YtdpfpdejipkffaaLay25
import Derived.Sort.OwnSorted
import Derived.Deep.Upon
import Derived.Deep.RegionLaw
namespace Go.Ab
open Go.Proofs Go.RowKit Go.Sort
/-- The keys that one of two rows has. -/
def keysB (a b : List ByteArray) : List ByteArray := (Lib.compact (((a ++ b).map fun s => s.data.toList).mergeSort fun x y => decide (x ≤ y))).map fun l => ⟨l.toArray⟩
theorem enc_back (b : ByteArray) : encStr b.data.toList = .string b := by
  show Value.string ⟨b.data.toList.toArray⟩ = _
  rw [Array.toArray_toList]
theorem enc_map (l : List ByteArray) : (l.map fun s => s.data.toList).map encStr = l.map .string := by
  rw [List.map_map]; exact List.map_congr_left fun b _ => enc_back b
theorem owns_down {w : World} {B B' : Nat} {e : TypeId} {sz : Nat} {v : Value} {n : Nat} {xs : List Value} (h : w.ownsRow B e sz v n xs) (hb : B' ≤ B) : w.ownsRow B' e sz v n xs := by
  obtain ⟨h1, h2⟩ := h
  refine ⟨h1, ?_⟩
  rcases h2 with h2 | ⟨g, cap, cur, e1, e2, e3⟩
  · exact .inl h2
  · exact .inr ⟨g, cap, cur, e1, Nat.le_trans hb e2, e3⟩
theorem below_of_grown {w w' : World} {B : Nat} {row : Option Nat} (hg : w.grownBy w' row) (hr : ∀ k, row = some k → B ≤ k) (hB : B ≤ w.heap.size) : Below B w w' := (Below.refl B w).grown hg hB hr
theorem sort_call {w : World} {v : Value} {ss : List (List UInt8)} {B : Nat} (hB : B ≤ w.heap.size) (hown : w.ownsRow B 9 1 v ss.length (ss.map encStr)) (hl : ss.length ≤ 140737488355328) :
    Calls Try.prog 73 #[v] w fun e w' => e = .returned (.tuple #[]) ∧ w'.ownsRow B 9 1 v ss.length ((ss.mergeSort fun x y => decide (x ≤ y)).map encStr) ∧ Below B w w' := by
  rcases hown.2 with ⟨rfl, h0⟩ | ⟨g, cap, cur, rfl, hg, hblk, hn, hcap, hsz, htk⟩
  · refine (Try.slices_Sort_string_none none 0 w).mono ?_
    rintro e w' ⟨rfl, rfl⟩
    have : ss = [] := List.eq_nil_of_length_eq_zero h0
    subst this
    exact ⟨rfl, by simpa using hown, Below.refl _ _⟩
  · have hlt : g < w.heap.size := (Array.getElem?_eq_some_iff.1 hblk).1
    refine (Try.slices_Sort_string g 0 cap ss w (holds_of_block hblk (by simpa using htk)) hlt (by omega)).mono ?_
    rintro e w' ⟨rfl, n, os, rfl⟩
    refine ⟨rfl, ownsRow_sorted (by simp) hg hblk hn hcap hsz, below_of_grown (grownBy_sorted _) (fun k hk => by cases hk; exact hg) hB⟩
theorem compact_call {w : World} {v : Value} {ss : List (List UInt8)} {B : Nat} (hB : B ≤ w.heap.size) (hown : w.ownsRow B 9 1 v ss.length (ss.map encStr)) (hl : ss.length ≤ 140737488355328) :
    Calls Try.prog 74 #[v] w fun e w' => ∃ v', e = .returned v' ∧ w'.ownsRow B 9 1 v' (Lib.compact ss).length ((Lib.compact ss).map encStr) ∧ Below B w w' := by
  rcases hown.2 with ⟨rfl, h0⟩ | ⟨g, cap, cur, rfl, hg, hblk, hn, hcap, hsz, htk⟩
  · refine (Try.slices_Compact_string_empty none 0 w).mono ?_
    rintro e w' ⟨rfl, rfl⟩
    have : ss = [] := List.eq_nil_of_length_eq_zero h0
    subst this
    exact ⟨_, rfl, by simpa [Lib.compact, Lib.compactUpTo] using hown, Below.refl _ _⟩
  · have hle := Lib.compact_length_le ss
    refine (Try.slices_Compact_string g 0 cap ss w (holds_of_block hblk (by simpa using htk)) (by omega) hn).mono ?_
    rintro e w' ⟨rfl, q, rfl⟩
    have ho := ownsRow_sorted (n := q) (os := #[]) (ts := Lib.compact ss ++ List.replicate (ss.length - (Lib.compact ss).length) []) (ss := ss) (by simp; omega) hg hblk hn hcap hsz
    have hgr := grownBy_sorted (w := w) (g := g) (n := q) (os := #[]) (Lib.compact ss ++ List.replicate (ss.length - (Lib.compact ss).length) []).toArray
    rw [grow_empty] at ho hgr
    refine ⟨_, rfl, ?_, below_of_grown hgr (fun k hk => by cases hk; exact hg) hB⟩
    rcases ho.2 with ⟨h, _⟩ | ⟨g', cap', cur', h, hg', hblk', hn', hcap', hsz', htk'⟩
    · cases h
    · cases h
      refine ⟨by simp, .inr ⟨g, cap, cur', rfl, hg', hblk', by omega, hcap', hsz', ?_⟩⟩
      have := congrArg (List.take (Lib.compact ss).length) htk'
      rw [List.take_take] at this
      rw [show min (Lib.compact ss).length (ss.length * 1) = (Lib.compact ss).length * 1 by omega] at this
      rw [this, List.map_append, List.take_left' (by simp)]
noncomputable def i9 : TypeInfo := (Try.prog.info? 9).getD default
theorem hi9 : Try.prog.info? 9 = some i9 := by kernel_rfl
theorem append_str {w : World} {v y : Value} {n m : Nat} {xs news : List Value} {B : Nat} (hB : B ≤ w.heap.size) (hown : w.ownsRow B 9 1 v n xs) (hnews : news.length = m) (h1 : ∀ u ∈ news, u.oneCell' = true) (hl : n + m ≤ 8796093022208)
    (hy : (∃ c, y = .slice none 0 c ∧ m = 0) ∨ ∃ a c, y = .slice (some a) m c ∧ ∀ j u, news[j]? = some u → w.cell? (a.add j) = some u) :
    ∃ v' w', (Builtin.append_ #[22, 22] 22 #[v, y]).run Try.prog w = .ok v' w' ∧ w'.ownsRow B 9 1 v' (n + m) (xs ++ news) ∧ Below B w w' := by
  rcases hy with ⟨c, rfl, rfl⟩ | ⟨a, c, rfl, hc⟩
  · have hn0 : news = [] := List.eq_nil_of_length_eq_zero hnews
    subst hn0
    have hs : Src Try.prog i9.size 22 (.slice none 0 c) 0 [] w := Src.ofNil (e' := 9) w Try.underlying22 c
    have hv : ∃ base sLen sCap, v = .slice base sLen sCap ∧ sLen ≤ sCap := by
      rcases hown.2 with ⟨rfl, _⟩ | ⟨g, cap, cur, rfl, _, _, hn, _⟩
      · exact ⟨_, _, _, rfl, Nat.le_refl _⟩
      · exact ⟨_, _, _, rfl, hn⟩
    obtain ⟨base, sLen, sCap, rfl, hle⟩ := hv
    exact ⟨_, _, run_append_nothing (P := Try.prog) w 22 22 22 9 i9 Try.underlying22 hi9 base sLen sCap hle _ hs, by simpa using hown, Below.refl _ _⟩
  · obtain ⟨v', w', h2, h3, h4, _⟩ := run_append_own (P := Try.prog) w B 22 22 9 i9 (.string ⟨#[]⟩) 1 16 Try.underlying22 hi9 (by kernel_rfl) (by kernel_rfl) (by kernel_rfl) rfl (by decide) v n xs hown a m c news (by omega) hc h1 (by unfold maxLen; omega) (by omega) hB
    exact ⟨v', w', h2, h3, below_of_grown h4 (fun k hk => (hown.lt k hk).1) hB⟩
theorem step_app {P : Program} {ops : Array Oper} {o : Oper} {a : Act} {w : World} {K : Act → World → Prop} {Q : Exit → Act → World → Prop} {E : Prop}
    (hg : o.guard = none) (s x : Operand) (t : TypeId) (hop : o.op = Op.call { callee := Callee.builtin Builtin.append, args := #[s, x], argTypes := #[t, t] })
    (v y v2 : Value) (w3 : World) (hs : a.eval s = v) (hx : a.eval x = y) (hrun : (Builtin.append_ #[t, t] o.type #[v, y]).run P w = .ok v2 w3) (hK : K (a.put o.dst v2) w3) :
    if Region.wanted o (yielded ops a.tmps) = true then Oper.wp P o a w K Q else E := by
  have hw : Region.wanted o (yielded ops a.tmps) = true := by simp [Region.wanted, hg]
  rw [if_pos hw]
  unfold Oper.wp
  simp [execOp, hop, resolve, invoke, builtin, hs, hx, hrun, Result.andThen]
  exact hK
set_option maxHeartbeats 4000000 in
set_option maxRecDepth 1000000 in
theorem keys_walk (a1 s1 r1 a2 s2 r2 x y : Value) (k1 k2 : List ByteArray) (W : World) (hl : k1.length + k2.length ≤ 8796093022208)
    (hx : ∀ w, Below W.heap.size W w → Calls Try.prog 63 #[x] w fun e w' => ∃ v', e = .returned v' ∧ w'.ownsRow W.heap.size 9 1 v' k1.length (k1.map .string) ∧ Below w.heap.size w w')
    (hy : ∀ w, Below W.heap.size W w → (∃ c, y = .slice none 0 c ∧ k2.length = 0) ∨ ∃ a c, y = .slice (some a) k2.length c ∧ ∀ j u, (k2.map Value.string)[j]? = some u → w.cell? (a.add j) = some u) :
    Calls Try.prog 57 #[.agg #[a1, x, s1, r1], .agg #[a2, y, s2, r2]] W fun e w' => ∃ v', e = .returned v' ∧ w'.ownsRow W.heap.size 9 1 v' (keysB k1 k2).length ((keysB k1 k2).map .string) ∧ Below W.heap.size W w' := by
  go_enter Try.func57, Try.ntmps57
  go_wp2_with (fail)
  have hz0 : ((W.alloc (Obj.cells #[a1, x, s1, r1] 25)).alloc (Obj.cells #[a2, y, s2, r2] 25)).heap.size = W.heap.size + 2 := by simp
  have cb1 : ((W.alloc (Obj.cells #[a1, x, s1, r1] 25)).alloc (Obj.cells #[a2, y, s2, r2] 25)).cell? ⟨W.heap.size, 1, none⟩ = some x := Lib.cell_of_heap ((Lib.alloc_old _ _ _ (by simp)).trans (heap_alloc_new W _)) 1
  have cb2 : ((W.alloc (Obj.cells #[a1, x, s1, r1] 25)).alloc (Obj.cells #[a2, y, s2, r2] 25)).cell? ⟨W.heap.size + 1, 1, none⟩ = some y := by
    have h := heap_alloc_new (W.alloc (Obj.cells #[a1, x, s1, r1] 25)) (Obj.cells #[a2, y, s2, r2] 25)
    rw [show (W.alloc (Obj.cells #[a1, x, s1, r1] 25)).heap.size = W.heap.size + 1 by simp] at h
    exact Lib.cell_of_heap h 1
  have bb : Below W.heap.size W ((W.alloc (Obj.cells #[a1, x, s1, r1] 25)).alloc (Obj.cells #[a2, y, s2, r2] 25)) := ((Below.refl W.heap.size W).alloc (Nat.le_refl _) _).alloc (by simp) _
  generalize ((W.alloc (Obj.cells #[a1, x, s1, r1] 25)).alloc (Obj.cells #[a2, y, s2, r2] 25)) = wb at hz0 cb1 cb2 bb ⊢
  have bd : Below W.heap.size W wb.drew := ⟨bb.os, bb.tape, bb.output, bb.size, bb.block⟩
  have key : ∀ w2 v1, w2.ownsRow W.heap.size 9 1 v1 k1.length (k1.map .string) → Below wb.drew.heap.size wb.drew w2 → ∃ v2 w3, (Builtin.append_ #[22, 22] 22 #[v1, y]).run Try.prog w2 = .ok v2 w3 ∧ w3.ownsRow W.heap.size 9 1 v2 (k1.length + k2.length) (k1.map .string ++ k2.map .string) ∧ Below W.heap.size W w3 ∧ w2.cell? ⟨W.heap.size + 1, 1, none⟩ = some y := by
    intro w2 v1 own1 b2
    have hz1 : wb.drew.heap.size = W.heap.size + 2 := hz0
    have b02 : Below W.heap.size W w2 := bd.trans ⟨b2.os, b2.tape, b2.output, b2.size, fun i hi => b2.block i (by omega)⟩
    obtain ⟨v2, w3, h1, h2, h3⟩ := append_str b02.size own1 (by simp) (fun u hu => by obtain ⟨b, _, rfl⟩ := List.mem_map.1 hu; rfl) hl (hy w2 b02)
    refine ⟨v2, w3, h1, h2, b02.trans h3, ?_⟩
    exact (World.cell?_of_block (w := wb.drew) (b2.block (W.heap.size + 1) (by omega))).trans cb2
  clear hy
  go_region_law (first | (refine step_app rfl (.tmp 8) (.tmp 10) 22 rfl v1 y v2 w3 (by simp [Act.eval, Act.put]) (by simp [Act.eval, Act.put]) hap ?_) | (go_simp; go_at_call 63; refine (hx _ ?_).mono ?_; exact bd; rintro e w2 ⟨v1, rfl, own1, b2⟩; obtain ⟨v2, w3, hap, own2, b3, cy2⟩ := key w2 v1 own1 b2))
  all_goals (
    have hkl : ((k1 ++ k2).map fun s => s.data.toList).length = k1.length + k2.length := by simp
    rw [← List.map_append, ← enc_map, ← hkl] at own2
    have hs := sort_call b3.size own2 (by omega)
    clear key hx hap
    go_wp2_with (first | (go_at_call 73; refine hs.mono ?_; rintro e w4 ⟨rfl, own4, b4⟩))
    have hml : (((k1 ++ k2).map fun s => s.data.toList).mergeSort fun x y => decide (x ≤ y)).length = ((k1 ++ k2).map fun s => s.data.toList).length := by simp
    rw [← hml] at own4
    have hc := compact_call (b3.trans b4).size own4 (by omega)
    go_wp2_with (first | (go_at_call 74; refine hc.mono ?_; rintro e w5 ⟨v', rfl, own5, b5⟩))
    go_ret
    refine ⟨v', rfl, ?_, (b3.trans b4).trans b5⟩
    have hk : (keysB k1 k2).map Value.string = (Lib.compact (((k1 ++ k2).map fun s => s.data.toList).mergeSort fun x y => decide (x ≤ y))).map encStr := by unfold keysB; rw [List.map_map]; rfl
    rw [hk]
    unfold keysB
    rw [List.length_map]
    exact own5)
theorem rep_strs {W : World} {S : Nat → Prop} {ks : List ByteArray} {x : Value} (R : Rep W S (.sl (ks.map .str)) x) :
    (∃ a cap, x = .slice a 0 cap ∧ ks = []) ∨ ∃ B off cap, x = .slice (some ⟨B, off, none⟩) ks.length cap ∧ S B ∧ ∀ j, j < ks.length → W.cell? ⟨B, off + j, none⟩ = some (.string (ks.getD j ByteArray.empty)) := by
  generalize he : ks.map FV.str = es at R
  cases R with
  | sl0 a cap => exact .inl ⟨a, cap, rfl, List.map_eq_nil_iff.1 he⟩
  | sl _ B off cap sz agg g hS hcap hf hc hc1 hh =>
    subst he
    refine .inr ⟨B, off, cap, by rw [List.length_map], hS, fun j hj => ?_⟩
    have hj' : j < (ks.map FV.str).length := by rw [List.length_map]; exact hj
    have hs : (ks.map FV.str)[j] = .str ks[j] := by simp
    have hfit := hf (ks.map FV.str)[j] (List.getElem_mem hj')
    rw [hs] at hfit
    obtain ⟨rfl, rfl⟩ : sz = 1 ∧ agg = false := by
      cases agg <;> simp [FV.fits, FV.isAg] at hfit ⊢
      exact hfit
    have hR := hh j (ks.map FV.str)[j] 0 (.str ks[j]) (List.getElem?_eq_getElem hj') (by rw [hs]; rfl)
    have hcc := hc j (by omega)
    rw [Nat.mul_one, Nat.add_zero] at hR
    rw [hcc]
    generalize g j = u at hR
    cases hR
    simp [List.getD, List.getElem?_eq_getElem hj]
/-- What ltype.keys answers. -/
def keysP (ts : List TV) : Option Ans := match ts with
  | [.fz (.ag [_, .sl e1, _, _]), .fz (.ag [_, .sl e2, _, _])] => when (e1.all FV.isStr && e2.all FV.isStr && Nat.ble (e1.length + e2.length) 8796093022208) (some ([.fz (.sl ((keysB (e1.map FV.toStr) (e2.map FV.toStr)).map .str))], []))
  | _ => none
theorem rep_four {W : World} {S : Nat → Prop} {a b c d : FV} {x : Value} (R : Rep W S (.ag [a, b, c, d]) x) : ∃ va vb vc vd, x = .agg #[va, vb, vc, vd] ∧ Rep W S b vb := by
  cases R with
  | ag _ vs hl h1 h =>
    obtain ⟨l⟩ := vs
    have hl' : l.length = 4 := hl
    match l, hl' with
    | [va, vb, vc, vd], _ => exact ⟨va, vb, vc, vd, rfl, h 1 b vb rfl rfl⟩
theorem keys_prim : ∀ ts r, keysP ts = some r → CallOK Try.prog 57 ts r := by
  intro ts r e
  unfold keysP at e
  split at e
  · rename_i e1 _ _ _ e2 _ _
    obtain ⟨hg, e⟩ := when_some e
    cases e
    rw [Bool.and_eq_true, Bool.and_eq_true] at hg
    obtain ⟨⟨g1, g2⟩, g3⟩ := hg
    have hlen := Nat.le_of_ble_eq_true g3
    have he1 := str_map g1
    have he2 := str_map g2
    intro W S args Bs hlt hglob hT
    obtain ⟨x, y, rfl, rfl, R1, R2⟩ := repTs_two hT
    obtain ⟨va, vb, vc, vd, rfl, Rk1⟩ := rep_four R1
    obtain ⟨ua, ub, uc, ud, rfl, Rk2⟩ := rep_four R2
    rw [he1] at Rk1
    rw [he2] at Rk2
    generalize hk1 : e1.map FV.toStr = k1 at *
    generalize hk2 : e2.map FV.toStr = k2 at *
    have l1 : e1.length = k1.length := by rw [← hk1, List.length_map]
    have l2 : e2.length = k2.length := by rw [← hk2, List.length_map]
    refine (keys_walk va vc vd ua uc ud vb ub k1 k2 W (by omega) ?_ ?_).mono fun e' W' hp => ?_
    · intro w hb
      rcases rep_strs Rk1 with ⟨a, cap, rfl, rfl⟩ | ⟨B, off, cap, rfl, hS, hc⟩
      · cases a with
        | none =>
          refine (Try.slices_Clone_string_nil 0 cap w).mono ?_
          rintro e w' ⟨rfl, rfl⟩
          exact ⟨_, rfl, World.ownsRow_nil _ _ _ _, Below.refl _ _⟩
        | some a =>
          refine (Try.slices_Clone_string_zero a cap w).mono ?_
          rintro e w' ⟨v', rfl, hown, _, hb2⟩
          exact ⟨v', rfl, owns_down hown hb.size, hb2⟩
      · refine (Try.slices_Clone_string B off k1.length cap k1 w (Nat.le_refl _) (by omega) (fun j hj => (cell_same (hb.block B (hlt B hS))).trans (hc j hj))).mono ?_
        rintro e w' ⟨v', rfl, hown, _, hb2⟩
        rw [List.take_length] at hown
        exact ⟨v', rfl, owns_down hown hb.size, hb2⟩
    · intro w hb
      rcases rep_strs Rk2 with ⟨a, cap, rfl, rfl⟩ | ⟨B, off, cap, rfl, hS, hc⟩
      · cases a with
        | none => exact .inl ⟨cap, rfl, rfl⟩
        | some a => exact .inr ⟨a, cap, rfl, fun j u hu => by simp at hu⟩
      · refine .inr ⟨_, cap, rfl, fun j u hu => ?_⟩
        rw [List.getElem?_map] at hu
        obtain ⟨s, hs, rfl⟩ := Option.map_eq_some_iff.1 hu
        have hj : j < k2.length := (List.getElem?_eq_some_iff.1 hs).1
        have h2 := (cell_same (hb.block B (hlt B hS))).trans (hc j hj)
        rw [Addr.add_lit]
        simpa [List.getD, hs] using h2
    · obtain ⟨v', rfl, hown, hb⟩ := hp
      refine ans_one (fun t ht => ?_) rfl hlt hb (rep_ownStr (W := W) hown fun b h1 h2 => .inr ⟨h1, h2⟩)
      simp only [List.mem_cons, List.not_mem_nil, or_false] at ht
      rcases ht with rfl | rfl <;> exact ⟨_, rfl⟩
  · cases e
def A_keys : AFunc := ⟨2, [], .skip, some keysP⟩
end Go.Ab
