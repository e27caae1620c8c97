/- Nodes, told; how the reference counts them. -/
import Derived.Test.YtdpfpdejipkffaaSJvB
namespace Go.Ab
set_option linter.unusedVariables false
set_option linter.unusedSimpArgs false

inductive ND where
  | mk (a d k c s : Int) (t : ByteArray) (is : List ND) (ks : List ByteArray)
  deriving Inhabited

mutual
def ND.enc : ND → FV
  | .mk a d k c s t is ks => .ag [.int .i64 a, .int .i64 d, .int .i64 k, .int .i64 c, .int .i64 s, .str t, .sl (ND.encs is), .sl (ks.map .str)]
def ND.encs : List ND → List FV
  | [] => []
  | v :: r => v.enc :: ND.encs r
end
theorem ND.encs_eq : ∀ l : List ND, ND.encs l = l.map ND.enc
  | [] => by simp [ND.encs]
  | v :: r => by simp [ND.encs, ND.encs_eq r]
theorem ND.enc_mk (a d k c s : Int) (t : ByteArray) (is : List ND) (ks : List ByteArray) : (ND.mk a d k c s t is ks).enc = .ag [.int .i64 a, .int .i64 d, .int .i64 k, .int .i64 c, .int .i64 s, .str t, .sl (is.map ND.enc), .sl (ks.map .str)] := by
  simp [ND.enc, ND.encs_eq]
@[simp] theorem ND.enc_fits (v : ND) : v.enc.fits 8 true = true := by
  obtain ⟨a, d, k, c, s, t, is, ks⟩ := v
  simp [ND.enc]
@[simp] theorem ND.all_fits (l : List ND) : (l.map ND.enc).all (FV.fits 8 true) = true := Ab.all_fits _ (fun v => v.enc_fits) l
def ND.a : ND → Int | .mk a _ _ _ _ _ _ _ => a
def ND.d : ND → Int | .mk _ d _ _ _ _ _ _ => d
def ND.k : ND → Int | .mk _ _ k _ _ _ _ _ => k
def ND.is : ND → List ND | .mk _ _ _ _ _ _ is _ => is
def ND.ks : ND → List ByteArray | .mk _ _ _ _ _ _ _ ks => ks

/-- No list and no text in it is great. -/
inductive ND.Sm : ND → Prop where
  | mk {a d k c s : Int} {t : ByteArray} {is : List ND} {ks : List ByteArray} (hi : is.length ≤ 134217728) (hk : ks.length ≤ 134217728) (ht : t.size ≤ 134217728) (hs : ∀ s ∈ ks, s.size ≤ 134217728) (h : ∀ v ∈ is, v.Sm) : (ND.mk a d k c s t is ks).Sm

mutual
def ND.cnt : ND → Nat
  | .mk _ _ _ _ _ _ is _ => 1 + ND.cnts is
def ND.cnts : List ND → Nat
  | [] => 0
  | v :: r => v.cnt + ND.cnts r
end
theorem ND.cnt_mk (a d k c s : Int) (t : ByteArray) (is : List ND) (ks : List ByteArray) : (ND.mk a d k c s t is ks).cnt = 1 + ND.cnts is := by simp [ND.cnt]
theorem ND.cnts_drop {l : List ND} {i : Nat} (h : i < l.length) : ND.cnts (l.drop i) = (l[i]).cnt + ND.cnts (l.drop (i + 1)) := by
  rw [drop_cons h, ND.cnts]

def capN (k c most : Int) : Int := if k ≥ most then k else if k + c ≥ most then most else k + c
theorem capN_zero {x m : Int} (h : x ≤ m) : capN x ((0 : Nat) : Int) m = x := by
  unfold capN
  by_cases h1 : x ≥ m
  · rw [if_pos h1]
  · rw [if_neg h1, if_neg (by omega)]; omega
theorem capN_add {x m : Int} (c1 c2 : Nat) : capN (capN x c1 m) c2 m = capN x ((c1 + c2 : Nat) : Int) m := by
  unfold capN
  by_cases h1 : x ≥ m
  · simp only [if_pos h1]
  · by_cases h2 : x + c1 ≥ m
    · rw [if_neg h1, if_pos h2, if_pos (Int.le_refl m), if_neg h1, if_pos (by omega)]
    · rw [if_neg h1, if_neg h2, if_neg h2, if_neg h1]
      by_cases h3 : x + c1 + c2 ≥ m
      · rw [if_pos h3, if_pos (by omega)]
      · rw [if_neg h3, if_neg (by omega)]; omega
theorem capN_one {x m : Int} (c : Nat) (h : ¬ x ≥ m) : capN (x + 1) c m = capN x ((1 + c : Nat) : Int) m := by
  unfold capN
  rw [if_neg h]
  by_cases h1 : x + 1 ≥ m
  · rw [if_pos h1, if_pos (by omega)]; omega
  · rw [if_neg h1]
    by_cases h2 : x + 1 + c ≥ m
    · rw [if_pos h2, if_pos (by omega)]
    · rw [if_neg h2, if_neg (by omega)]; omega
theorem capN_le {x m : Int} (c : Nat) (h : x ≤ m) (h0 : 0 ≤ x) : 0 ≤ capN x c m ∧ capN x c m ≤ m := by
  unfold capN
  by_cases h1 : x ≥ m
  · rw [if_pos h1]; omega
  · rw [if_neg h1]
    by_cases h2 : x + c ≥ m
    · rw [if_pos h2]; omega
    · rw [if_neg h2]; omega
end Go.Ab
