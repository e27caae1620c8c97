/- Values of documents, told; how the reference counts them, and asks whether two are the same. -/
import Derived.Test.YtjkdheebgmnpmaaT
namespace Go.Ab
set_option linter.unusedVariables false
set_option linter.unusedSimpArgs false

inductive JV where
  | mk (k c s : Int) (t : ByteArray) (is : List JV) (ks : List ByteArray)
  deriving Inhabited

mutual
def JV.enc : JV → FV
  | .mk k c s t is ks => .ag [.int .i64 k, .int .i64 c, .int .i64 s, .str t, .sl (JV.encs is), .sl (ks.map .str)]
def JV.encs : List JV → List FV
  | [] => []
  | v :: r => v.enc :: JV.encs r
end
theorem JV.encs_eq : ∀ l : List JV, JV.encs l = l.map JV.enc
  | [] => by simp [JV.encs]
  | v :: r => by simp [JV.encs, JV.encs_eq r]
theorem JV.enc_mk (k c s : Int) (t : ByteArray) (is : List JV) (ks : List ByteArray) : (JV.mk k c s t is ks).enc = .ag [.int .i64 k, .int .i64 c, .int .i64 s, .str t, .sl (is.map JV.enc), .sl (ks.map .str)] := by
  simp [JV.enc, JV.encs_eq]
@[simp] theorem JV.enc_fits (v : JV) : v.enc.fits 6 true = true := by
  obtain ⟨k, c, s, t, is, ks⟩ := v
  simp [JV.enc]
@[simp] theorem JV.all_fits (l : List JV) : (l.map JV.enc).all (FV.fits 6 true) = true := Ab.all_fits _ (fun v => v.enc_fits) l

def JV.k : JV → Int | .mk k _ _ _ _ _ => k
def JV.is : JV → List JV | .mk _ _ _ _ is _ => is
def JV.ks : JV → List ByteArray | .mk _ _ _ _ _ ks => ks

/-- No list in it is so long that a place in it is no whole number of the machine. -/
inductive JV.Sm : JV → Prop where
  | mk {k c s : Int} {t : ByteArray} {is : List JV} {ks : List ByteArray} (hi : is.length ≤ 1152921504606846976) (hk : ks.length ≤ 1152921504606846976) (h : ∀ v ∈ is, v.Sm) : (JV.mk k c s t is ks).Sm

theorem bytes_ext {a b : ByteArray} (h : a.toList = b.toList) : a = b := by
  rw [ByteArray.toList_eq, ByteArray.toList_eq] at h
  obtain ⟨⟨x⟩⟩ := a
  obtain ⟨⟨y⟩⟩ := b
  simp at h
  rw [h]
theorem bytes_beq (a b : ByteArray) : (a.toList == b.toList) = decide (a = b) := by
  by_cases h : a = b
  · subst h; simp
  · have : a.toList ≠ b.toList := fun e => h (bytes_ext e)
    simp [h, this]

theorem size_tot {v : JV} (hv : v.Sm) : ∀ n m : Int, ∃ r : Int, Rt N_ref05_Size [.fz v.enc, .fz (.int .i64 n), .fz (.int .i64 m)] = some ([.fz (.int .i64 r)], []) := by
  induction hv with
  | @mk k c s t is ks hi hk h ih =>
    have loop : ∀ (j : Nat) (a b : Int) (i : Nat), i + j = is.length → ∃ r : Int, L_ref05_Size_1_0 Rt (is.length + 1) true (j + 1) a b i k c s t (is.map JV.enc) (ks.map .str) = some (.exit 0, X_ref05_Size_1_0 r) := by
      intro j
      induction j with
      | zero =>
        intro a b i hij
        refine ⟨a, ?_⟩
        rw [L_ref05_Size_1_0_eq]
        simp [show ¬ ((i : Int) < (is.length : Int)) by omega]
      | succ j jh =>
        intro a b i hij
        have hl : i < is.length := by omega
        obtain ⟨r1, h1⟩ := ih is[i] (List.getElem_mem hl) a b
        obtain ⟨r, h2⟩ := jh r1 b (i + 1) (by omega)
        push_cast at h2
        refine ⟨r, ?_⟩
        rw [L_ref05_Size_1_0_eq]
        have hw : IntKind.wrap .i64 ((i : Int) + 1) = (i : Int) + 1 := wrap64 (by omega) (by omega)
        simp [show (i : Int) < (is.length : Int) by omega, List.getElem?_eq_getElem hl, h1, onR_some, hw, h2]
    intro n m
    by_cases hn : n ≥ m
    · refine ⟨n, rt_call A_ref05_Size rfl rfl 0 ?_⟩
      rw [JV.enc_mk, E_ref05_Size]
      simp [hn]
    · obtain ⟨r, hr⟩ := loop is.length (IntKind.wrap .i64 (n + 1)) m 0 (by omega)
      refine ⟨r, rt_call A_ref05_Size rfl rfl (is.length + 1) ?_⟩
      rw [JV.enc_mk, E_ref05_Size]
      simp only [show decide (n ≥ m) = false by simpa using hn, ifB_false]
      rw [show ((0 : Nat) : Int) = 0 from rfl] at hr
      rw [hr, onL_some, X_ref05_Size_1_0_eq]
end Go.Ab
