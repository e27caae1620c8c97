/- The join of two types: the program's, the reference's. -/
import Derived.Test.YtdpfpdejipkffaaSKeys
namespace Go.Ab
open Go.Proofs
set_option linter.unusedVariables false
set_option linter.unusedSimpArgs false
set_option linter.unusedSectionVars false
/-- How deep a type is. -/
def TY.Dp : Nat → TY → Prop
  | 0, v => v.us = []
  | n + 1, v => ∀ u ∈ v.us, TY.Dp n u
inductive TY.Bd (m : Nat) : TY → Prop where
  | mk {a r : Int} {ks : List ByteArray} {us : List TY} (hk : ks.length ≤ m) (hu : us.length ≤ m) (h : ∀ v ∈ us, v.Bd m) : (TY.mk a ks us r).Bd m
theorem TY.Bd.mono {m m' : Nat} (hm : m ≤ m') {v : TY} (h : v.Bd m) : v.Bd m' := by
  induction h with
  | mk hk hu h ih => exact .mk (by omega) (by omega) ih
theorem TY.Bd.ti {m : Nat} (hm : m ≤ 134217728) {v : TY} (h : v.Bd m) : v.Ti := by
  induction h with
  | mk hk hu h ih => exact .mk (by omega) (by omega) ih
theorem TY.Bd.sm {m : Nat} (hm : m ≤ 134217728) {v : TY} (h : v.Bd m) : v.Sm := (h.ti hm).sm
theorem bd_plain (m : Nat) (r : Int) : (TY.mk r [] [] r).Bd m := .mk (by simp) (by simp) (fun v h => by cases h)
theorem dp_plain (n : Nat) (r : Int) : (TY.mk r [] [] r).Dp n := by
  cases n with
  | zero => rfl
  | succ n => intro u hu; cases hu
theorem ofT_bd {m : Nat} {x : TY} (h : x.Bd m) (key : ByteArray) : (ofT x key).Bd m := by
  cases h with
  | @mk a r ks us hk hu h =>
    rcases ofL_cases ks us key r with h1 | h1
    · exact h _ h1
    · show (ofL ks us key r).Bd m
      rw [h1]; exact bd_plain m r
theorem ofT_dp {n : Nat} {x : TY} (h : x.Dp (n + 1)) (key : ByteArray) : (ofT x key).Dp n := by
  obtain ⟨a, ks, us, r⟩ := x
  rcases ofL_cases ks us key r with h1 | h1
  · exact h _ h1
  · show (ofL ks us key r).Dp n
    rw [h1]; exact dp_plain n r
theorem MayT.ks0 {L : Lt} {x : TY} (h : MayT L x) (h0 : x.us = []) : x.ks = [] := by
  cases h with
  | @mk a r ks us ha hr hl hp h =>
    have h0 : us = [] := h0
    subst h0
    exact List.eq_nil_of_length_eq_zero hl
theorem MayT.rise {L : Lt} {x : TY} (h : MayT L x) : x.ks.Pairwise BLt := by cases h with | mk _ _ _ hp _ => exact hp
def joinT (L : Lt) : Nat → TY → TY → TY
  | 0, x, y => .mk (L.joinI x.a y.a) [] [] (L.joinI x.r y.r)
  | n + 1, x, y => .mk (L.joinI x.a y.a) (mrg x.ks y.ks) ((mrg x.ks y.ks).map fun k => joinT L n (ofT x k) (ofT y k)) (L.joinI x.r y.r)
theorem isJ {L : Lt} (O : L.Ok) (a b : Int) : L.is (L.joinI a b : Nat) = true := by
  rw [Lt.is_nat]; exact decide_eq_true (O.joinI_lt a b)
theorem joinT_may {L : Lt} (O : L.Ok) : ∀ (n : Nat) {x y : TY}, MayT L x → MayT L y → MayT L (joinT L n x y)
  | 0, x, y, _, _ => .mk (isJ O _ _) (isJ O _ _) rfl List.Pairwise.nil (fun u hu => by cases hu)
  | n + 1, x, y, hx, hy => .mk (isJ O _ _) (isJ O _ _) (by simp) (mrg_rise _ _ hx.rise hy.rise) (fun u hu => by
    obtain ⟨k, _, rfl⟩ := List.mem_map.1 hu
    exact joinT_may O n (ofT_may hx k) (ofT_may hy k))
theorem joinT_dp (L : Lt) : ∀ (n : Nat) {x y : TY}, x.Dp n → y.Dp n → (joinT L n x y).Dp n
  | 0, x, y, _, _ => rfl
  | n + 1, x, y, hx, hy => fun u hu => by
    obtain ⟨k, _, rfl⟩ := List.mem_map.1 hu
    exact joinT_dp L n (ofT_dp hx k) (ofT_dp hy k)
theorem joinT_bd (L : Lt) : ∀ (n : Nat) {p q : Nat} {x y : TY}, x.Bd p → y.Bd q → (joinT L n x y).Bd (p + q)
  | 0, p, q, x, y, _, _ => .mk (by simp) (by simp) (fun u hu => by cases hu)
  | n + 1, p, q, x, y, hx, hy => by
    have hl : (mrg x.ks y.ks).length ≤ p + q := by
      have h1 := mrg_len x.ks y.ks
      have h2 : x.ks.length ≤ p := by cases hx with | mk hk _ _ => exact hk
      have h3 : y.ks.length ≤ q := by cases hy with | mk hk _ _ => exact hk
      omega
    exact .mk hl (by rw [List.length_map]; exact hl) (fun u hu => by
      obtain ⟨k, _, rfl⟩ := List.mem_map.1 hu
      exact joinT_bd L n (ofT_bd hx k) (ofT_bd hy k))
theorem joinP_step {e : FV} {L : Lt} (I : IsLat e L) {x y : TY} (hx : MayT L x) (hy : MayT L y) (sx : x.Sm) (sy : y.Sm) (bx : x.ks.length ≤ 50000000) (by' : y.ks.length ≤ 50000000) (g : ByteArray → TY)
    (hg : ∀ k ∈ mrg x.ks y.ks, Rt N_ltype_Join [.fz (.pt 195 true e 0), .fz (ofT x k).enc, .fz (ofT y k).enc] = some ([.fz (g k).enc], [])) :
    Rt N_ltype_Join [.fz (.pt 195 true e 0), .fz x.enc, .fz y.enc] = some ([.fz (TY.mk (L.joinI x.a y.a) (mrg x.ks y.ks) ((mrg x.ks y.ks).map g) (L.joinI x.r y.r)).enc], []) := by
  have ox := of_ok' hx sx
  have oy := of_ok' hy sy
  have hkk := fun (a r a' r' : Int) us us' => keysP_ok a r a' r' us us' hx.rise hy.rise (by omega) (by omega)
  have hl : (mrg x.ks y.ks).length ≤ 100000000 := by have := mrg_len x.ks y.ks; omega
  obtain ⟨xa, xk, xu, xr⟩ := x
  obtain ⟨ya, yk, yu, yr⟩ := y
  simp only [TY.ks, TY.a, TY.r] at hkk hg hl ⊢
  simp only [TY.enc_mk] at ox oy
  generalize mrg xk yk = ks at hkk hg hl ⊢
  have j1 := lat_Join I xa ya
  have j2 := lat_Join I xr yr
  generalize L.joinI xa ya = A at j1 ⊢
  generalize L.joinI xr yr = B at j2 ⊢
  have z : ∀ (z0 z1 : Int) (j i : Nat), i + j = ks.length → onL (L_ltype_Join_1_1 Rt (ks.length + 1) true (j + 1) e (.sl (ks.map .str)) ks.length i xa (xk.map .str) (xu.map TY.enc) xr ya (yk.map .str) (yu.map TY.enc) yr z0 z1 A (.sl (ks.map .str)) B (((ks.map g).take i).map TY.enc)) (K_ltype_Join_1 Rt (ks.length + 1) true) = some ([.fz (TY.mk A ks (ks.map g) B).enc], []) := by
    intro z0 z1 j
    induction j with
    | zero =>
      intro i hij
      rw [L_ltype_Join_1_1_eq, List.take_of_length_le (show (ks.map g).length ≤ i by simp; omega), TY.enc_mk]
      simp only [decide_eq_false (show ¬ ((i : Int) < (ks.length : Int)) by omega), ifB_false, onL_some, X_ltype_Join_1_1_eq]
    | succ j jh =>
      intro i hij
      have hl' : i < ks.length := by omega
      have h1 := hg ks[i] (List.getElem_mem hl')
      have h2 := jh (i + 1) (by omega)
      rw [take_snoc (l := ks.map g) (i := i) (by simpa using hl'), List.map_append, List.map_singleton, List.getElem_map] at h2
      have hw : IntKind.wrap .i64 ((i : Int) + 1) = ((i + 1 : Nat) : Int) := by rw [wrap64 (by omega) (by omega)]; simp
      have hro := roomT i (g ks[i]).enc (((ks.map g).take i).map TY.enc) (by simp; omega) (by omega)
      rw [L_ltype_Join_1_1_eq]
      simp only [isSl_sl, toSl_sl, List.length_map, decide_eq_true (show (i : Int) < (ks.length : Int) by omega), decide_eq_true (show (0 : Int) ≤ (i : Int) by omega), ifB_true, Bool.and_true, when_true', Int.toNat_natCast, getD_str' ks hl', fits_str, isStr_str, toStr_str, ox, oy, TY.enc_fits, h1, onR_some, List.isEmpty_nil, allF_cons, allF_nil, List.getD_cons_zero, toF_fz, hw] at hro ⊢
      simp only [hro, when_true']
      exact h2
  refine rt_call A_ltype_Join rfl rfl (ks.length + 1) ?_
  rw [TY.enc_mk, TY.enc_mk, E_ltype_Join, j1]
  simp only [onR_some, List.isEmpty_nil, allF_cons, allF_nil, Bool.and_true, when_true', List.getD_cons_zero, toF_fz, isInt_int, toInt_int, j2, hkk, fits_sl, isSl_sl, toSl_sl, List.length_map]
  rw [L_ltype_Join_1_0_eq]
  cases ks with
  | nil =>
    simp only [List.map_nil, List.length_nil, decide_eq_false (show ¬ ((0 : Int) < ((0 : Nat) : Int)) by omega), ifB_false, onL_some, X_ltype_Join_1_0_eq, TY.enc_mk]
  | cons k ks =>
    have h1 := hg k (List.mem_cons_self ..)
    have h2 := z 0 0 ks.length 1 (by simp; omega)
    rw [show ((k :: ks).map g).take 1 = [g k] from rfl, List.map_singleton] at h2
    have w0 : IntKind.wrap .i64 ((0 : Int) + 1) = ((1 : Nat) : Int) := by rw [wrap64 (by omega) (by omega)]; rfl
    have d0 : decide ((0 : Int) ≤ 0) = true := by decide
    have t0 : (0 : Int).toNat = 0 := rfl
    have hro0 := roomT0 (g k).enc
    simp only [isSl_sl, toSl_sl, List.map_cons, List.length_cons, List.length_map, decide_eq_true (show (0 : Int) < ((ks.length + 1 : Nat) : Int) by omega), d0, t0, ifB_true, Bool.and_true, when_true', List.getD_cons_zero, fits_str, isStr_str, toStr_str, ox, oy, TY.enc_fits, h1, onR_some, List.isEmpty_nil, allF_cons, allF_nil, toF_fz, w0] at h2 hro0 ⊢
    simp only [hro0, when_true']
    exact h2
theorem joinTP_ok {e : FV} {L : Lt} (I : IsLat e L) : ∀ (n : Nat) {x y : TY}, MayT L x → MayT L y → x.Dp n → y.Dp n → x.Bd 50000000 → y.Bd 50000000 → Rt N_ltype_Join [.fz (.pt 195 true e 0), .fz x.enc, .fz y.enc] = some ([.fz (joinT L n x y).enc], [])
  | 0, x, y, hx, hy, dx, dy, bx, by' => by
    have e1 : mrg x.ks y.ks = [] := by rw [hx.ks0 dx, hy.ks0 dy, mrg_nil]
    have h := joinP_step I hx hy (bx.sm (by omega)) (by'.sm (by omega)) (by cases bx with | mk hk _ _ => exact hk) (by cases by' with | mk hk _ _ => exact hk) (fun _ => x) (fun k hk => by rw [e1] at hk; cases hk)
    rw [e1] at h
    exact h
  | n + 1, x, y, hx, hy, dx, dy, bx, by' =>
    joinP_step I hx hy (bx.sm (by omega)) (by'.sm (by omega)) (by cases bx with | mk hk _ _ => exact hk) (by cases by' with | mk hk _ _ => exact hk) (fun k => joinT L n (ofT x k) (ofT y k)) (fun k _ => joinTP_ok I n (ofT_may hx k) (ofT_may hy k) (ofT_dp dx k) (ofT_dp dy k) (ofT_bd bx k) (ofT_bd by' k))
end Go.Ab
