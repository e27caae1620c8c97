-- Written for this claim by a program of the session, out of the translation's print. Lean checks it.
import Derived.Test.YteeodnnabogheaaX0
import Derived.Test.YteeodnnabogheaaYRd
namespace Go.Proofs.Yteeodnnabogheaa.X
open Go.RowKit Go.Proofs.YteeodnnabogheaaY Go.Proofs.YteeodnnabogheaaW.PrintWords Go.Proofs.YteeodnnabogheaaW.PrintLast Go.Proofs.YteeodnnabogheaaW.PrintMore
attribute [local go_sem] max2_int min2_int max_two min_two max_three min_three max_four min_four   -- for this text's walks alone
set_option linter.unusedVariables false
set_option linter.unusedSimpArgs false

open Go.Proofs.YteeodnnabogheaaY
inductive Ok36 : S36 → Prop
  | mk {x : S36} : (x.f0.size ≤ 140737488351232) → (x.f1.length ≤ maxLen) → (x.f1.length * 8 ≤ 140737488351232) → (∀ y0 ∈ x.f1, (Lit.int .i64 y0).wf = true) → Ok36 x
theorem rd36 : ∀ fuel, Rd Try.prog k36 36 Ok36 fuel := by
  intro fuel
  induction fuel using Nat.strongRecOn with
  | _ fuel ih =>
  intro H enc w cs x h hw
  obtain ⟨xs, n, rfl, rfl, hl, hlen, hf⟩ := DataW.trod_struct Try.underlying36 h
  have hlt := Nat.lt_succ_self n
  have hl1 : xs.length = 2 := hlen
  obtain ⟨y0, y1, rfl⟩ : ∃ y0 y1, xs = [y0, y1] := by match xs, hl1 with | [z0, z1], _ => exact ⟨_, _, rfl⟩
  have hl2 : cs.length = 2 := hl.trans (by kernel_rfl)
  obtain ⟨u0, u1, rfl⟩ : ∃ u0 u1, cs = [u0, u1] := by match cs, hl2 with | [z0, z1], _ => exact ⟨_, _, rfl⟩
  have hw2 : ∀ k ∈ DataW.weightsEach Try.prog [9, 34] [y0.1, y1.1], k ≤ reachBytes := by intro k hk; apply hw; simp only [DataW.weights, Try.underlying36]; exact hk
  have q0 : DataW.trod enc Try.prog w 0 (fun _ => true) true n 9 [u0] = some y0 := by
    have q : DataW.trod enc Try.prog w 0 (fun _ => true) true n 9 (([u0, u1].drop 0).take (Try.prog.cellsOf 9)) = some y0 := hf 0 _ rfl
    simp only [show Try.prog.cellsOf 9 = 1 from by kernel_rfl] at q
    exact q
  have q1 : DataW.trod enc Try.prog w 0 (fun _ => true) true n 34 [u1] = some y1 := by
    have q : DataW.trod enc Try.prog w 0 (fun _ => true) true n 34 (([u0, u1].drop 1).take (Try.prog.cellsOf 34)) = some y1 := hf 1 _ rfl
    simp only [show Try.prog.cellsOf 34 = 1 from by kernel_rfl] at q
    exact q
  obtain ⟨a0, k0, o0⟩ := (rd_string Try.underlying9 n) enc w _ _ q0 (fun k hk => hw2 _ (DataW.weights_mem_each (j := 0) rfl rfl k hk))
  obtain rfl := (List.cons.inj k0).1
  obtain ⟨a1, k1, o1⟩ := (rd_slice (B := 8) Try.underlying34 (by kernel_rfl) (by kernel_rfl) n (fun m0 hm0 => (rd_int Try.underlying3 m0))) enc w _ _ q1 (fun k hk => hw2 _ (DataW.weights_mem_each (j := 1) rfl rfl k hk))
  obtain ⟨A1_, c1_, e1, l1_, g1_⟩ := k1
  obtain rfl := (List.cons.inj e1).1
  exact ⟨⟨a0, a1⟩, k36_mk w ⟨a0, a1⟩ l1_ g1_, ⟨o0, o1.1, o1.2.1, o1.2.2⟩⟩
inductive Ok52 : S52 → Prop
  | mk {x : S52} : ((Lit.int .i64 x.f0).wf = true) → ((Lit.int .i64 x.f1).wf = true) → Ok52 x
theorem rd52 : ∀ fuel, Rd Try.prog k52 52 Ok52 fuel := by
  intro fuel
  induction fuel using Nat.strongRecOn with
  | _ fuel ih =>
  intro H enc w cs x h hw
  obtain ⟨xs, n, rfl, rfl, hl, hlen, hf⟩ := DataW.trod_array Try.underlying52 h
  have hlt := Nat.lt_succ_self n
  have hl1 : xs.length = 2 := hlen
  obtain ⟨y0, y1, rfl⟩ : ∃ y0 y1, xs = [y0, y1] := by match xs, hl1 with | [z0, z1], _ => exact ⟨_, _, rfl⟩
  have hl2 : cs.length = 2 := hl.trans (by kernel_rfl)
  obtain ⟨u0, u1, rfl⟩ : ∃ u0 u1, cs = [u0, u1] := by match cs, hl2 with | [z0, z1], _ => exact ⟨_, _, rfl⟩
  have hw2 : ∀ d ∈ [y0.1, y1.1], ∀ k ∈ d.weights Try.prog 3, k ≤ reachBytes := by intro d hd k hk; apply hw; simp only [DataW.weights, Try.underlying52]; exact weightsAll_mem hd k hk
  have q0 : DataW.trod enc Try.prog w 0 (fun _ => true) true n 3 [u0] = some y0 := by
    have q : DataW.trod enc Try.prog w 0 (fun _ => true) true n 3 (([u0, u1].drop (0 * Try.prog.cellsOf 3)).take (Try.prog.cellsOf 3)) = some y0 := hf 0 (by decide)
    simp only [show Try.prog.cellsOf 3 = 1 from by kernel_rfl] at q
    exact q
  have q1 : DataW.trod enc Try.prog w 0 (fun _ => true) true n 3 [u1] = some y1 := by
    have q : DataW.trod enc Try.prog w 0 (fun _ => true) true n 3 (([u0, u1].drop (1 * Try.prog.cellsOf 3)).take (Try.prog.cellsOf 3)) = some y1 := hf 1 (by decide)
    simp only [show Try.prog.cellsOf 3 = 1 from by kernel_rfl] at q
    exact q
  obtain ⟨a0, k0, o0⟩ := (rd_int Try.underlying3 n) enc w _ _ q0 (fun k hk => hw2 _ (by simp) k hk)
  obtain rfl := (List.cons.inj k0).1
  obtain ⟨a1, k1, o1⟩ := (rd_int Try.underlying3 n) enc w _ _ q1 (fun k hk => hw2 _ (by simp) k hk)
  obtain rfl := (List.cons.inj k1).1
  exact ⟨⟨a0, a1⟩, k52_mk w ⟨a0, a1⟩ , ⟨o0, o1⟩⟩
end Go.Proofs.Yteeodnnabogheaa.X
