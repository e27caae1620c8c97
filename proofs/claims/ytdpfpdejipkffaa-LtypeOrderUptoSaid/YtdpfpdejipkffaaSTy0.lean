/- Types, told; whether one may be. -/
import Derived.Test.YtdpfpdejipkffaaSJvB
import Derived.Test.YtdpfpdejipkffaaSLat0
import Derived.Test.YtdpfpdejipkffaaSReadB
namespace Go.Ab
set_option linter.unusedVariables false
set_option linter.unusedSimpArgs false
set_option linter.unusedSectionVars false

inductive TY where
  | mk (a : Int) (ks : List ByteArray) (us : List TY) (r : Int)
  deriving Inhabited
mutual
def TY.enc : TY → FV
  | .mk a ks us r => .ag [.int .i64 a, .sl (ks.map .str), .sl (TY.encs us), .int .i64 r]
def TY.encs : List TY → List FV
  | [] => []
  | v :: r => v.enc :: TY.encs r
end
theorem TY.encs_eq : ∀ l : List TY, TY.encs l = l.map TY.enc
  | [] => by simp [TY.encs]
  | v :: r => by simp [TY.encs, TY.encs_eq r]
theorem TY.enc_mk (a : Int) (ks : List ByteArray) (us : List TY) (r : Int) : (TY.mk a ks us r).enc = .ag [.int .i64 a, .sl (ks.map .str), .sl (us.map TY.enc), .int .i64 r] := by
  simp [TY.enc, TY.encs_eq]
@[simp] theorem TY.enc_fits (v : TY) : v.enc.fits 4 true = true := by
  obtain ⟨a, ks, us, r⟩ := v
  simp [TY.enc]
@[simp] theorem TY.all_fits (l : List TY) : (l.map TY.enc).all (FV.fits 4 true) = true := Ab.all_fits _ (fun v => v.enc_fits) l
def TY.a : TY → Int | .mk a _ _ _ => a
def TY.ks : TY → List ByteArray | .mk _ ks _ _ => ks
def TY.us : TY → List TY | .mk _ _ us _ => us
def TY.r : TY → Int | .mk _ _ _ r => r
/-- No list in it is so long that a place in it is no whole number of the machine. -/
inductive TY.Sm : TY → Prop where
  | mk {a r : Int} {ks : List ByteArray} {us : List TY} (hk : ks.length ≤ 1152921504606846976) (hu : us.length ≤ 1152921504606846976) (h : ∀ v ∈ us, v.Sm) : (TY.mk a ks us r).Sm
mutual
def TY.cnt : TY → Nat
  | .mk _ _ us _ => 1 + TY.cnts us
def TY.cnts : List TY → Nat
  | [] => 0
  | v :: r => v.cnt + TY.cnts r
end
theorem TY.cnt_mk (a : Int) (ks : List ByteArray) (us : List TY) (r : Int) : (TY.mk a ks us r).cnt = 1 + TY.cnts us := by simp [TY.cnt]
theorem TY.cnts_drop {l : List TY} {i : Nat} (h : i < l.length) : TY.cnts (l.drop i) = (l[i]).cnt + TY.cnts (l.drop (i + 1)) := by
  rw [Ab.drop_cons h, TY.cnts]
def lebB (a b : ByteArray) : Bool := Op.bytesLess a.toList b.toList || a.toList == b.toList
mutual
def isT (L : Lt) : TY → Int → Bool
  | .mk a ks us r, d => !(decide (d > 3)) && (L.is a && (L.is r && (!((ks.length : Int) != (us.length : Int)) && isTs L none ks us (IntKind.wrap .i64 (d + 1)))))
def isTs (L : Lt) : Option ByteArray → List ByteArray → List TY → Int → Bool
  | _, _, [], _ => true
  | p, ks, u :: us, d => !(match p with | none => false | some q => lebB (ks.headD ⟨#[]⟩) q) && (isT L u d && isTs L (some (ks.headD ⟨#[]⟩)) ks.tail us d)
end
theorem isTs_cons (L : Lt) (p : Option ByteArray) (ks : List ByteArray) (u : TY) (us : List TY) (d : Int) : isTs L p ks (u :: us) d = (!(match p with | none => false | some q => lebB (ks.headD ⟨#[]⟩) q) && (isT L u d && isTs L (some (ks.headD ⟨#[]⟩)) ks.tail us d)) := by
  cases p <;> simp [isTs]
def prevT (ks : List ByteArray) (i : Nat) : Option ByteArray := if i = 0 then none else some (ks.getD (i - 1) ⟨#[]⟩)
theorem prevT_succ (ks : List ByteArray) (i : Nat) : prevT ks (i + 1) = some (ks.getD i ⟨#[]⟩) := by simp [prevT]
theorem headD_drop (ks : List ByteArray) (i : Nat) : (ks.drop i).headD ⟨#[]⟩ = ks.getD i ⟨#[]⟩ := by
  rw [List.headD_eq_head?_getD, List.head?_drop]; simp
theorem getD_str (ks : List ByteArray) {i : Nat} (h : i < ks.length) : (ks.map FV.str).getD i .nilp = .str (ks.getD i ⟨#[]⟩) := by
  simp [List.getD, List.getElem?_eq_getElem h]
theorem wrapm {i : Nat} (h : i ≤ 1152921504606846976) (h0 : 0 < i) : IntKind.wrap .i64 ((i : Int) - 1) = ((i - 1 : Nat) : Int) := by
  rw [wrap64 (by omega) (by omega)]; omega
end Go.Ab
