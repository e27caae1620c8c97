/- JvalTurns: the plain law. -/
import Derived.Test.YtjkdheebgmnpmaaSLives5
import Derived.Test.YtjkdheebgmnpmaaSRead1
import Derived.Test.YtjkdheebgmnpmaaSEnts
namespace Go.Ab
open Go.Proofs
set_option linter.unusedVariables false
set_option linter.unusedSimpArgs false

theorem put_comm {a b : ByteArray} (h : a ≠ b) (o v w : JV) : (o.put a v).put b w = (o.put b w).put a v := by
  rcases obj_or o with hno | ⟨c, s, t, l, rfl⟩
  · rw [(hno a v).1, (hno b w).1, (hno a v).1]
  · rw [put_obj, put_obj, put_obj, put_obj, ins_comm h]

theorem put_len (o : JV) (k : ByteArray) (v : JV) : (o.put k v).is.length ≤ o.is.length + 1 ∧ (o.put k v).ks.length ≤ o.ks.length + 1 := by
  rcases obj_or o with hno | ⟨c, s, t, l, rfl⟩
  · rw [(hno k v).1]; omega
  · rw [put_obj]
    have := ins_length l k v
    simp only [objV, JV.is, JV.ks, List.length_map, this]
    cases look l k <;> simp only [] <;> omega

theorem put_sm {o v : JV} (k : ByteArray) (ho : o.Sm) (hv : v.Sm) (h1 : o.is.length ≤ 1152921504606846975) (h2 : o.ks.length ≤ 1152921504606846975) : (o.put k v).Sm := by
  have hl := put_len o k v
  rcases obj_or o with hno | ⟨c, s, t, l, rfl⟩
  · rw [(hno k v).1]; exact ho
  · rw [put_obj] at hl ⊢
    simp only [objV, JV.is, JV.ks, List.length_map] at hl h1 h2
    refine .mk (by rw [List.length_map]; omega) (by rw [List.length_map]; omega) (fun x hx => ?_)
    obtain ⟨p, hp, rfl⟩ := List.mem_map.1 hx
    cases ho with
    | mk _ _ hall =>
      rcases ins_mem hp with rfl | hp
      · exact hv
      · exact hall _ (List.mem_map_of_mem hp)

theorem ok_lens {B : Nat} {o : JV} (h : JV.Ok B o) : o.is.length * 88 ≤ B ∧ o.ks.length * 16 ≤ B := by
  cases h with
  | mk _ _ _ _ hi hk _ _ => exact ⟨hi, hk⟩

theorem pure_JvalTurns (f0 f1 f2 : FV) (h0 : WV Try.prog 40 134217728 27 f0) (h1 : WV Try.prog 40 134217728 28 f1) (h2 : WV Try.prog 40 134217728 29 f2) : Rt N_law05_JvalTurns [.fz f0, .fz f1, .fz f2] = some ([.fz (.bool true)], []) := by
  obtain ⟨o, rfl, ho⟩ := jv_of (t := 27) (ts := 9) (by kernel_rfl) (by kernel_rfl) (by kernel_rfl) (by kernel_rfl) (by kernel_rfl) (by kernel_rfl) h0
  obtain ⟨v, w, rfl, hv, hw⟩ := jv2_of (t := 27) (ts := 9) (by kernel_rfl) (by kernel_rfl) (by kernel_rfl) (by kernel_rfl) (by kernel_rfl) (by kernel_rfl) (t2 := 28) (by kernel_rfl) (by kernel_rfl) h1
  obtain ⟨a, b, rfl, _, _⟩ := str2_of (by kernel_rfl) (by kernel_rfl) h2
  have hB : (134217728 : Nat) ≤ 140737488351232 := by omega
  have hB2 : (134217728 : Nat) ≤ 8796093022208 := by omega
  have hosm := ho.sm hB
  have hvsm := hv.sm hB
  have hwsm := hw.sm hB
  obtain ⟨b1, hL1⟩ := light_tot hosm 200
  obtain ⟨b2, hL2⟩ := light_tot hvsm 100
  obtain ⟨b3, hL3⟩ := light_tot hwsm 100
  have hIs := is_ok hosm (ho.short hB2) 0
  have hl := ok_lens ho
  have hroom : roomy = 140737488355328 := rfl
  have l1 := put_len o a v
  have l2 := put_len o b w
  have p1 := put_ok (o := o) (v := v) ⟨by omega, by omega⟩ a
  have p2 := put_ok (o := o.put a v) (v := w) ⟨by omega, by omega⟩ b
  have p3 := put_ok (o := o) (v := w) ⟨by omega, by omega⟩ b
  have p4 := put_ok (o := o.put b w) (v := v) ⟨by omega, by omega⟩ a
  have s1 := put_sm a hosm hvsm (by omega) (by omega)
  have s2 := put_sm b s1 hwsm (by omega) (by omega)
  have hsame := same_ok s2 ((o.put b w).put a v)
  have f2 : FV.fits 6 true ((o.put a v).put b w).enc = true := JV.enc_fits _
  have f4 : FV.fits 6 true ((o.put b w).put a v).enc = true := JV.enc_fits _
  have hcomm : a ≠ b → sameB ((o.put a v).put b w) ((o.put b w).put a v) = true := fun h => by rw [put_comm h]; exact sameB_self _
  generalize isR o 0 = b4 at hIs
  generalize sameB ((o.put a v).put b w) ((o.put b w).put a v) = r at hsame hcomm
  generalize ((o.put a v).put b w).enc = q2 at p2 hsame f2
  generalize ((o.put b w).put a v).enc = q4 at p4 hsame f4
  generalize (o.put a v).enc = q1 at p1 p2
  generalize (o.put b w).enc = q3 at p3 p4
  have hbe := bytes_beq a b
  obtain ⟨k, c, s, t, is, ks⟩ := o
  obtain ⟨vk, vc, vs, vt, vis, vks⟩ := v
  obtain ⟨wk, wc, ws, wt, wis, wks⟩ := w
  rw [JV.enc_mk] at hL1 hL2 hL3 hIs p2 p4
  rw [JV.enc_mk, JV.enc_mk] at p1 p3
  refine rt_call A_law05_JvalTurns rfl rfl 0 ?_
  rw [JV.enc_mk, JV.enc_mk, JV.enc_mk]
  simp only [toAg_ag, List.cons_append, List.nil_append]
  rw [E_law05_JvalTurns]
  cases b1 with
  | false => simp only [hL1, onR_some, List.isEmpty_nil, allF_cons, allF_nil, Bool.and_true, when_true', List.getD_cons_zero, toF_fz, isBool_bool, toBool_bool, Bool.not_false, ifB_true, lives5_ok]
  | true =>
  cases b2 with
  | false => simp only [hL1, hL2, onR_some, List.isEmpty_nil, allF_cons, allF_nil, Bool.and_true, when_true', List.getD_cons_zero, toF_fz, isBool_bool, toBool_bool, Bool.not_false, Bool.not_true, ifB_true, ifB_false, lives5_ok]
  | true =>
  cases b3 with
  | false => simp only [hL1, hL2, hL3, onR_some, List.isEmpty_nil, allF_cons, allF_nil, Bool.and_true, when_true', List.getD_cons_zero, toF_fz, isBool_bool, toBool_bool, Bool.not_false, Bool.not_true, ifB_true, ifB_false, lives5_ok]
  | true =>
  cases b4 with
  | false => simp only [hL1, hL2, hL3, hIs, onR_some, List.isEmpty_nil, allF_cons, allF_nil, Bool.and_true, when_true', List.getD_cons_zero, toF_fz, isBool_bool, toBool_bool, Bool.not_false, Bool.not_true, ifB_true, ifB_false, lives5_ok]
  | true =>
  by_cases hab : a = b
  · rw [decide_eq_true hab] at hbe
    simp only [hL1, hL2, hL3, hIs, hbe, onR_some, List.isEmpty_nil, allF_cons, allF_nil, Bool.and_true, when_true', List.getD_cons_zero, toF_fz, isBool_bool, toBool_bool, Bool.not_false, Bool.not_true, ifB_true, ifB_false, lives5_ok]
  · rw [decide_eq_false hab] at hbe
    rw [hcomm hab] at hsame
    simp only [hL1, hL2, hL3, hIs, hbe, onR_some, List.isEmpty_nil, allF_cons, allF_nil, Bool.and_true, when_true', List.getD_cons_zero, toF_fz, isBool_bool, toBool_bool, Bool.not_false, Bool.not_true, ifB_true, ifB_false, jump_true, J_law05_JvalTurns_1_0_eq, p1, p2, p3, p4, f2, f4, hsame, lives5_ok]
end Go.Ab
