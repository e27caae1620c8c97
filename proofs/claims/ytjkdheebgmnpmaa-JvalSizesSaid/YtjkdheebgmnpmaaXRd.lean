-- Written for this claim by a program of the session, out of the translation's print. Lean checks it.
import Derived.Test.YtjkdheebgmnpmaaX0
import Derived.Test.YtjkdheebgmnpmaaYRd
namespace Go.Proofs.Ytjkdheebgmnpmaa.X
open Go.RowKit Go.Proofs.YtjkdheebgmnpmaaY Go.Proofs.YtjkdheebgmnpmaaW.PrintWords Go.Proofs.YtjkdheebgmnpmaaW.PrintLast Go.Proofs.YtjkdheebgmnpmaaW.PrintMore
attribute [local go_sem] max2_int min2_int max_two min_two max_three min_three max_four min_four   -- for this text's walks alone
set_option linter.unusedVariables false
set_option linter.unusedSimpArgs false

open Go.Proofs.YtjkdheebgmnpmaaY
inductive Ok23 : S23 → Prop
  | mk {x : S23} : ((Lit.int .i64 x.f0).wf = true) → ((Lit.int .i64 x.f1).wf = true) → Ok23 x
theorem rd23 : ∀ fuel, Rd Try.prog k23 23 Ok23 fuel := by
  intro fuel
  induction fuel using Nat.strongRecOn with
  | _ fuel ih =>
  intro H enc w cs x h hw
  obtain ⟨xs, n, rfl, rfl, hl, hlen, hf⟩ := DataW.trod_struct Try.underlying23 h
  have hlt := Nat.lt_succ_self n
  have hl1 : xs.length = 2 := hlen
  obtain ⟨y0, y1, rfl⟩ : ∃ y0 y1, xs = [y0, y1] := by match xs, hl1 with | [z0, z1], _ => exact ⟨_, _, rfl⟩
  have hl2 : cs.length = 2 := hl.trans (by kernel_rfl)
  obtain ⟨u0, u1, rfl⟩ : ∃ u0 u1, cs = [u0, u1] := by match cs, hl2 with | [z0, z1], _ => exact ⟨_, _, rfl⟩
  have hw2 : ∀ k ∈ DataW.weightsEach Try.prog [2, 3] [y0.1, y1.1], k ≤ reachBytes := by intro k hk; apply hw; simp only [DataW.weights, Try.underlying23]; exact hk
  have q0 : DataW.trod enc Try.prog w 0 (fun _ => true) true n 2 [u0] = some y0 := by
    have q : DataW.trod enc Try.prog w 0 (fun _ => true) true n 2 (([u0, u1].drop 0).take (Try.prog.cellsOf 2)) = some y0 := hf 0 _ rfl
    simp only [show Try.prog.cellsOf 2 = 1 from by kernel_rfl] at q
    exact q
  have q1 : DataW.trod enc Try.prog w 0 (fun _ => true) true n 3 [u1] = some y1 := by
    have q : DataW.trod enc Try.prog w 0 (fun _ => true) true n 3 (([u0, u1].drop 1).take (Try.prog.cellsOf 3)) = some y1 := hf 1 _ rfl
    simp only [show Try.prog.cellsOf 3 = 1 from by kernel_rfl] at q
    exact q
  obtain ⟨a0, k0, o0⟩ := (rd_int Try.underlying2 n) enc w _ _ q0 (fun k hk => hw2 _ (DataW.weights_mem_each (j := 0) rfl rfl k hk))
  obtain rfl := (List.cons.inj k0).1
  obtain ⟨a1, k1, o1⟩ := (rd_int Try.underlying3 n) enc w _ _ q1 (fun k hk => hw2 _ (DataW.weights_mem_each (j := 1) rfl rfl k hk))
  obtain rfl := (List.cons.inj k1).1
  exact ⟨⟨a0, a1⟩, k23_mk w ⟨a0, a1⟩ , ⟨o0, o1⟩⟩
inductive Ok27 : S27 → Prop
  | mk {x : S27} : ((Lit.int .i64 x.f0).wf = true) → (Ok23 x.f1) → (x.f2.size ≤ 140737488351232) → (x.f3.length ≤ maxLen) → (x.f3.length * 88 ≤ 140737488351232) → (∀ y0 ∈ x.f3, Ok27 y0) → (x.f4.length ≤ maxLen) → (x.f4.length * 16 ≤ 140737488351232) → (∀ y0 ∈ x.f4, y0.size ≤ 140737488351232) → Ok27 x
theorem rd27 : ∀ fuel, Rd Try.prog k27 27 Ok27 fuel := by
  intro fuel
  induction fuel using Nat.strongRecOn with
  | _ fuel ih =>
  intro H enc w cs x h hw
  obtain ⟨xs, n, rfl, rfl, hl, hlen, hf⟩ := DataW.trod_struct Try.underlying27 h
  have hlt := Nat.lt_succ_self n
  have hl1 : xs.length = 5 := hlen
  obtain ⟨y0, y1, y2, y3, y4, rfl⟩ : ∃ y0 y1 y2 y3 y4, xs = [y0, y1, y2, y3, y4] := by match xs, hl1 with | [z0, z1, z2, z3, z4], _ => exact ⟨_, _, _, _, _, rfl⟩
  have hl2 : cs.length = 6 := hl.trans (by kernel_rfl)
  obtain ⟨u0, u1, u2, u3, u4, u5, rfl⟩ : ∃ u0 u1 u2 u3 u4 u5, cs = [u0, u1, u2, u3, u4, u5] := by match cs, hl2 with | [z0, z1, z2, z3, z4, z5], _ => exact ⟨_, _, _, _, _, _, rfl⟩
  have hw2 : ∀ k ∈ DataW.weightsEach Try.prog [3, 23, 9, 24, 25] [y0.1, y1.1, y2.1, y3.1, y4.1], k ≤ reachBytes := by intro k hk; apply hw; simp only [DataW.weights, Try.underlying27]; exact hk
  have q0 : DataW.trod enc Try.prog w 0 (fun _ => true) true n 3 [u0] = some y0 := by
    have q : DataW.trod enc Try.prog w 0 (fun _ => true) true n 3 (([u0, u1, u2, u3, u4, u5].drop 0).take (Try.prog.cellsOf 3)) = some y0 := hf 0 _ rfl
    simp only [show Try.prog.cellsOf 3 = 1 from by kernel_rfl] at q
    exact q
  have q1 : DataW.trod enc Try.prog w 0 (fun _ => true) true n 23 [u1, u2] = some y1 := by
    have q : DataW.trod enc Try.prog w 0 (fun _ => true) true n 23 (([u0, u1, u2, u3, u4, u5].drop 1).take (Try.prog.cellsOf 23)) = some y1 := hf 1 _ rfl
    simp only [show Try.prog.cellsOf 23 = 2 from by kernel_rfl] at q
    exact q
  have q2 : DataW.trod enc Try.prog w 0 (fun _ => true) true n 9 [u3] = some y2 := by
    have q : DataW.trod enc Try.prog w 0 (fun _ => true) true n 9 (([u0, u1, u2, u3, u4, u5].drop 3).take (Try.prog.cellsOf 9)) = some y2 := hf 2 _ rfl
    simp only [show Try.prog.cellsOf 9 = 1 from by kernel_rfl] at q
    exact q
  have q3 : DataW.trod enc Try.prog w 0 (fun _ => true) true n 24 [u4] = some y3 := by
    have q : DataW.trod enc Try.prog w 0 (fun _ => true) true n 24 (([u0, u1, u2, u3, u4, u5].drop 4).take (Try.prog.cellsOf 24)) = some y3 := hf 3 _ rfl
    simp only [show Try.prog.cellsOf 24 = 1 from by kernel_rfl] at q
    exact q
  have q4 : DataW.trod enc Try.prog w 0 (fun _ => true) true n 25 [u5] = some y4 := by
    have q : DataW.trod enc Try.prog w 0 (fun _ => true) true n 25 (([u0, u1, u2, u3, u4, u5].drop 5).take (Try.prog.cellsOf 25)) = some y4 := hf 4 _ rfl
    simp only [show Try.prog.cellsOf 25 = 1 from by kernel_rfl] at q
    exact q
  obtain ⟨a0, k0, o0⟩ := (rd_int Try.underlying3 n) enc w _ _ q0 (fun k hk => hw2 _ (DataW.weights_mem_each (j := 0) rfl rfl k hk))
  obtain rfl := (List.cons.inj k0).1
  obtain ⟨a1, k1, o1⟩ := (rd23 n) enc w _ _ q1 (fun k hk => hw2 _ (DataW.weights_mem_each (j := 1) rfl rfl k hk))
  have e1 := k23_open k1
  simp only [List.cons.injEq, and_true] at e1
  obtain ⟨rfl, rfl⟩ := e1
  obtain ⟨a2, k2, o2⟩ := (rd_string Try.underlying9 n) enc w _ _ q2 (fun k hk => hw2 _ (DataW.weights_mem_each (j := 2) rfl rfl k hk))
  obtain rfl := (List.cons.inj k2).1
  obtain ⟨a3, k3, o3⟩ := (rd_slice Try.underlying24 (by kernel_rfl) (by kernel_rfl) n (fun m0 hm0 => (ih m0 (Nat.lt_trans hm0 hlt)))) enc w _ _ q3 (fun k hk => hw2 _ (DataW.weights_mem_each (j := 3) rfl rfl k hk))
  obtain ⟨A3_, c3_, e3, l3_, g3_⟩ := k3
  obtain rfl := (List.cons.inj e3).1
  obtain ⟨a4, k4, o4⟩ := (rd_slice Try.underlying25 (by kernel_rfl) (by kernel_rfl) n (fun m0 hm0 => (rd_string Try.underlying9 m0))) enc w _ _ q4 (fun k hk => hw2 _ (DataW.weights_mem_each (j := 4) rfl rfl k hk))
  obtain ⟨A4_, c4_, e4, l4_, g4_⟩ := k4
  obtain rfl := (List.cons.inj e4).1
  exact ⟨⟨a0, a1, a2, a3, a4⟩, k27_mk w ⟨a0, a1, a2, a3, a4⟩ l3_ g3_ l4_ g4_, ⟨o0, o1, o2, o3.1, o3.2.1, o3.2.2, o4.1, o4.2.1, o4.2.2⟩⟩
inductive Ok28 : S28 → Prop
  | mk {x : S28} : (Ok27 x.f0) → (Ok27 x.f1) → Ok28 x
theorem rd28 : ∀ fuel, Rd Try.prog k28 28 Ok28 fuel := by
  intro fuel
  induction fuel using Nat.strongRecOn with
  | _ fuel ih =>
  intro H enc w cs x h hw
  obtain ⟨xs, n, rfl, rfl, hl, hlen, hf⟩ := DataW.trod_array Try.underlying28 h
  have hlt := Nat.lt_succ_self n
  have hl1 : xs.length = 2 := hlen
  obtain ⟨y0, y1, rfl⟩ : ∃ y0 y1, xs = [y0, y1] := by match xs, hl1 with | [z0, z1], _ => exact ⟨_, _, rfl⟩
  have hl2 : cs.length = 12 := hl.trans (by kernel_rfl)
  obtain ⟨u0, u1, u2, u3, u4, u5, u6, u7, u8, u9, u10, u11, rfl⟩ : ∃ u0 u1 u2 u3 u4 u5 u6 u7 u8 u9 u10 u11, cs = [u0, u1, u2, u3, u4, u5, u6, u7, u8, u9, u10, u11] := by match cs, hl2 with | [z0, z1, z2, z3, z4, z5, z6, z7, z8, z9, z10, z11], _ => exact ⟨_, _, _, _, _, _, _, _, _, _, _, _, rfl⟩
  have hw2 : ∀ d ∈ [y0.1, y1.1], ∀ k ∈ d.weights Try.prog 27, k ≤ reachBytes := by intro d hd k hk; apply hw; simp only [DataW.weights, Try.underlying28]; exact weightsAll_mem hd k hk
  have q0 : DataW.trod enc Try.prog w 0 (fun _ => true) true n 27 [u0, u1, u2, u3, u4, u5] = some y0 := by
    have q : DataW.trod enc Try.prog w 0 (fun _ => true) true n 27 (([u0, u1, u2, u3, u4, u5, u6, u7, u8, u9, u10, u11].drop (0 * Try.prog.cellsOf 27)).take (Try.prog.cellsOf 27)) = some y0 := hf 0 (by decide)
    simp only [show Try.prog.cellsOf 27 = 6 from by kernel_rfl] at q
    exact q
  have q1 : DataW.trod enc Try.prog w 0 (fun _ => true) true n 27 [u6, u7, u8, u9, u10, u11] = some y1 := by
    have q : DataW.trod enc Try.prog w 0 (fun _ => true) true n 27 (([u0, u1, u2, u3, u4, u5, u6, u7, u8, u9, u10, u11].drop (1 * Try.prog.cellsOf 27)).take (Try.prog.cellsOf 27)) = some y1 := hf 1 (by decide)
    simp only [show Try.prog.cellsOf 27 = 6 from by kernel_rfl] at q
    exact q
  obtain ⟨a0, k0, o0⟩ := (rd27 n) enc w _ _ q0 (fun k hk => hw2 _ (by simp) k hk)
  obtain ⟨A0_4, c0_4, A0_5, c0_5, e0, l0_4, g0_4, l0_5, g0_5⟩ := k27_open k0
  simp only [List.cons.injEq, and_true] at e0
  obtain ⟨rfl, rfl, rfl, rfl, rfl, rfl⟩ := e0
  obtain ⟨a1, k1, o1⟩ := (rd27 n) enc w _ _ q1 (fun k hk => hw2 _ (by simp) k hk)
  obtain ⟨A1_4, c1_4, A1_5, c1_5, e1, l1_4, g1_4, l1_5, g1_5⟩ := k27_open k1
  simp only [List.cons.injEq, and_true] at e1
  obtain ⟨rfl, rfl, rfl, rfl, rfl, rfl⟩ := e1
  exact ⟨⟨a0, a1⟩, k28_mk w ⟨a0, a1⟩ l0_4 g0_4 l0_5 g0_5 l1_4 g1_4 l1_5 g1_5, ⟨o0, o1⟩⟩
inductive Ok29 : S29 → Prop
  | mk {x : S29} : (x.f0.size ≤ 140737488351232) → (x.f1.size ≤ 140737488351232) → Ok29 x
theorem rd29 : ∀ fuel, Rd Try.prog k29 29 Ok29 fuel := by
  intro fuel
  induction fuel using Nat.strongRecOn with
  | _ fuel ih =>
  intro H enc w cs x h hw
  obtain ⟨xs, n, rfl, rfl, hl, hlen, hf⟩ := DataW.trod_array Try.underlying29 h
  have hlt := Nat.lt_succ_self n
  have hl1 : xs.length = 2 := hlen
  obtain ⟨y0, y1, rfl⟩ : ∃ y0 y1, xs = [y0, y1] := by match xs, hl1 with | [z0, z1], _ => exact ⟨_, _, rfl⟩
  have hl2 : cs.length = 2 := hl.trans (by kernel_rfl)
  obtain ⟨u0, u1, rfl⟩ : ∃ u0 u1, cs = [u0, u1] := by match cs, hl2 with | [z0, z1], _ => exact ⟨_, _, rfl⟩
  have hw2 : ∀ d ∈ [y0.1, y1.1], ∀ k ∈ d.weights Try.prog 9, k ≤ reachBytes := by intro d hd k hk; apply hw; simp only [DataW.weights, Try.underlying29]; exact weightsAll_mem hd k hk
  have q0 : DataW.trod enc Try.prog w 0 (fun _ => true) true n 9 [u0] = some y0 := by
    have q : DataW.trod enc Try.prog w 0 (fun _ => true) true n 9 (([u0, u1].drop (0 * Try.prog.cellsOf 9)).take (Try.prog.cellsOf 9)) = some y0 := hf 0 (by decide)
    simp only [show Try.prog.cellsOf 9 = 1 from by kernel_rfl] at q
    exact q
  have q1 : DataW.trod enc Try.prog w 0 (fun _ => true) true n 9 [u1] = some y1 := by
    have q : DataW.trod enc Try.prog w 0 (fun _ => true) true n 9 (([u0, u1].drop (1 * Try.prog.cellsOf 9)).take (Try.prog.cellsOf 9)) = some y1 := hf 1 (by decide)
    simp only [show Try.prog.cellsOf 9 = 1 from by kernel_rfl] at q
    exact q
  obtain ⟨a0, k0, o0⟩ := (rd_string Try.underlying9 n) enc w _ _ q0 (fun k hk => hw2 _ (by simp) k hk)
  obtain rfl := (List.cons.inj k0).1
  obtain ⟨a1, k1, o1⟩ := (rd_string Try.underlying9 n) enc w _ _ q1 (fun k hk => hw2 _ (by simp) k hk)
  obtain rfl := (List.cons.inj k1).1
  exact ⟨⟨a0, a1⟩, k29_mk w ⟨a0, a1⟩ , ⟨o0, o1⟩⟩
end Go.Proofs.Ytjkdheebgmnpmaa.X
