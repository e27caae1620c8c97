/- LtypeOrder: where all that comes in is of bulk at most 1048576, the law returns true, and its arguments read as before. No further condition. -/
import Derived.Test.YtdpfpdejipkffaaRows
import Derived.Test.YtdpfpdejipkffaaSPLtypeOrder
import Derived.WalkKit
import Derived.ProofKit
import Derived.OpenShut
import Derived.ShutString
import Derived.ChangeOld
import Derived.Below
import Derived.SizedLaws
import Derived.HandedShaped
import Derived.Shelf.Vars
import Derived.Deep.CondSized
import Derived.JoinedCond
import Derived.Test.YtdpfpdejipkffaaSUpto
namespace Go.Proofs.Ytdpfpdejipkffaa.ltypeOrder
open Go.ChangeShapes Go.WideShapes Go.ChangeAt Go.RowKit Go.Ab
set_option linter.unusedVariables false
theorem own : ownKnob Try.prog.godebug = none := by kernel_rfl
theorem laidOut : laidOutB Try.prog = true := by kernel_rfl
theorem closedE : closedT Try.prog 40 [40, 9, 25] = true := by kernel_rfl
theorem globs (W : World) : GlobOK Try.prog W (fun b => b < W.heap.size) := GlobOK.none (by kernel_rfl)
set_option maxRecDepth 100000 in
theorem lifted (os : Os) (started : os.Started) (H : Type) (enc : TypeId × Value → H) (F : Stop.Interp) :
    ReturnsInHanded {} Try.checked os 8 .any ((Rows.OpenSpec.upto Rows.ltypeOrderSpec).pre6 enc Try.prog Try.f8 Rows.ltypeOrderUptoRow.domain false) (((Rows.OpenSpec.upto Rows.ltypeOrderSpec).at F).post enc Try.prog Try.f8 false true false false) := by
  refine returnsInHanded_of_cond_sized (C := Try.checked) (s := (Rows.OpenSpec.upto Rows.ltypeOrderSpec)) (k := Rows.uptoSmall) rfl own started (by kernel_rfl) Try.func8
    (OpenSpec.witness (enc := enc) (C := Try.checked) (s := (Rows.OpenSpec.upto Rows.ltypeOrderSpec)) (k := Rows.uptoSmall) rfl false ⟨#[], #[.int .i64 0, .agg #[.int .i64 0, .slice none 0 0, .slice none 0 0, .int .i64 0, .int .i64 0, .slice none 0 0, .slice none 0 0, .int .i64 0, .int .i64 0, .slice none 0 0, .slice none 0 0, .int .i64 0], .agg #[.int .i64 0, .int .i64 0, .int .i64 0, .int .i64 0, .int .i64 0, .string ByteArray.empty, .slice none 0 0, .slice none 0 0]], []⟩ 8 (by kernel_rfl) (by kernel_rfl) (by kernel_rfl)
      (x := ([.lit (.int .i64 0), .agg [.agg [.lit (.int .i64 0), .nil, .nil, .lit (.int .i64 0)], .agg [.lit (.int .i64 0), .nil, .nil, .lit (.int .i64 0)], .agg [.lit (.int .i64 0), .nil, .nil, .lit (.int .i64 0)]], .agg [.lit (.int .i64 0), .lit (.int .i64 0), .lit (.int .i64 0), .agg [.lit (.int .i64 0), .lit (.int .i64 0)], .lit (.string []), .nil, .nil]], [], [])) (by kernel_rfl) rfl (by kernel_rfl)) ?_
  intro W base args ds gs before hval0 hW hcnd hk0 hsz0 _
  have hsz : ∀ n ∈ DataW.weightsEach Try.prog (Try.f8.params.toList ++ Rows.ltypeOrderSpec.plain.varTypes Try.prog) (ds ++ gs), n ≤ 134217728 := weights_upto (M := 128) (ts := [3, 67, 40, 25, 37, 9, 38, 22, 23, 2]) (by omega) (by kernel_rfl) (by kernel_rfl) hk0
  have hval : ∀ (j : Nat) t v, Try.f8.params[j]? = some t → args[j]? = some v → Value.okWide Try.prog W .any base t v := hval0
  have hW' := hW
  obtain ⟨p, q, hA0, hV, rfl, hfz, hnd⟩ := hW
  have hA : DataW.TrodAll enc Try.prog W 0 (fun _ => true) true Try.f8.params.toList args.toList ds p := hA0
  rw [Try.params8] at hA hval hsz
  obtain ⟨v0, vs0, d0, ds0, p0, q0, hargs, rfl, rfl, h0, r0⟩ := trodAll_cons hA
  obtain ⟨v1, vs1, d1, ds1, p1, q1, rfl, rfl, rfl, h1, r1⟩ := trodAll_cons r0
  obtain ⟨v2, vs2, d2, ds2, p2, q2, rfl, rfl, rfl, h2, r2⟩ := trodAll_cons r1
  obtain ⟨rfl, rfl, rfl⟩ := trodAll_nil r2
  obtain rfl : args = #[v0, v1, v2] := by cases args; simp_all
  obtain ⟨rfl, rfl⟩ := trodVars_none hV
  have k0 := h0
  have lt0 : ∀ x ∈ p0, x.block < W.heap.size := by obtain ⟨m, hm⟩ := k0; exact DataW.trod_lt m _ _ _ hm
  obtain ⟨f0, R0, V0⟩ := read_value closedE (t := 3) (by kernel_rfl) (hval 0 3 v0 rfl rfl) k0 (fun k hk => hsz k (DataW.weights_mem_each (j := 0) (t := 3) rfl rfl k hk))
  have k1 := h1
  have lt1 : ∀ x ∈ p1, x.block < W.heap.size := by obtain ⟨m, hm⟩ := k1; exact DataW.trod_lt m _ _ _ hm
  obtain ⟨f1, R1, V1⟩ := read_value closedE (t := 67) (by kernel_rfl) (hval 1 67 v1 rfl rfl) k1 (fun k hk => hsz k (DataW.weights_mem_each (j := 1) (t := 67) rfl rfl k hk))
  have k2 := h2
  have lt2 : ∀ x ∈ p2, x.block < W.heap.size := by obtain ⟨m, hm⟩ := k2; exact DataW.trod_lt m _ _ _ hm
  obtain ⟨f2, R2, V2⟩ := read_value closedE (t := 40) (by kernel_rfl) (hval 2 40 v2 rfl rfl) k2 (fun k hk => hsz k (DataW.weights_mem_each (j := 2) (t := 40) rfl rfl k hk))
  clear hA0 hval0 hsz0 hsz hk0
  have hp := pure_LtypeOrder f0 f1 f2 V0 V1 V2
  obtain ⟨k, hk⟩ := RR_tells.1 hp
  refine (law_calls tab_ok (fs := [f0, f1, f2]) (args := #[v0, v1, v2]) (W := W) hk (globs _) ⟨R0, R1, R2, trivial⟩).mono fun e W' ⟨he, bel⟩ => ?_
  subst he
  exact ⟨_, rfl, _, _, _, [], _, [], hW', trodAll_mk1 (shut_bool Try.underlying4 _), (trodAll_cons_mk (Below.trod laidOut (by kernel_rfl) (of_decide_eq_true (by kernel_rfl)) k0 bel lt0) (trodAll_cons_mk (Below.trod laidOut (by kernel_rfl) (of_decide_eq_true (by kernel_rfl)) k1 bel lt1) (trodAll_cons_mk (Below.trod laidOut (by kernel_rfl) (of_decide_eq_true (by kernel_rfl)) k2 bel lt2) trodAll_mk0))), rfl, bel.frame _, fun h => by cases h⟩
theorem proved : Rows.LtypeOrderUptoSaid :=
  OpenClaim.holds_of_cond 8 Try.f8 rfl rfl rfl rfl rfl rfl rfl ⟨rfl, rfl, rfl, rfl, rfl⟩ rfl rfl rfl rfl rfl (by kernel_rfl) Try.func8 (by kernel_rfl)
    (of_decide_eq_true (by kernel_rfl)) (by unfold Func.isWrapper; first | (rw [if_pos (by decide +kernel)]; kernel_rfl) | (rw [if_neg (by decide +kernel)]; exact ⟨rfl, rfl⟩))
    (fun os started H enc _ F => lifted os started H enc F)
#print axioms proved
end Go.Proofs.Ytdpfpdejipkffaa.ltypeOrder
namespace Go.Proofs.Ytdpfpdejipkffaa
/-- The row, under a short name, for the claim. -/
theorem ltypeOrder_upto : Rows.LtypeOrderUptoSaid := ltypeOrder.proved
end Go.Proofs.Ytdpfpdejipkffaa
