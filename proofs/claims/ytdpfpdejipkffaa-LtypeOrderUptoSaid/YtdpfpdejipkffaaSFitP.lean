/- A node fits one level everywhere just if all its labels are below it. -/
import Derived.Test.YtdpfpdejipkffaaSLeqT
namespace Go.Ab
open Go.Proofs
set_option linter.unusedVariables false
set_option linter.unusedSimpArgs false
set_option linter.unusedSectionVars false
def ND.cc : ND → Int | .mk _ _ _ c _ _ _ _ => c
def ND.ss : ND → Int | .mk _ _ _ _ s _ _ _ => s
def ND.tt : ND → ByteArray | .mk _ _ _ _ _ t _ _ => t
theorem leq_deepNs {L : Lt} (O : L.Ok) {c : Nat} (hc : c < L.n) : ∀ (l : List ND) (acc : Nat), acc < L.n → labBs L l = true → L.leq acc c = true → (∀ v ∈ l, L.leq (deepN L v) c = true) → L.leq (deepNs L acc l) c = true
  | [], acc, h, _, h1, _ => by simpa [deepNs] using h1
  | v :: r, acc, h, hl, h1, h2 => by
    simp only [labBs, Bool.and_eq_true] at hl
    have hd := deepN_lt O v hl.1
    rw [deepNs]
    exact leq_deepNs O hc r _ (O.join _ _ h hd) hl.2 (O.joinm _ _ _ h hd hc h1 (h2 v (List.mem_cons_self ..))) fun u hu => h2 u (List.mem_cons_of_mem _ hu)
theorem plain_fits {L : Lt} (O : L.Ok) {r : Nat} (hr : r < L.n) {v : ND} (hv : v.Sm) : mayB L v = true → fitsN L v (.mk r [] [] r) = true → L.leq (deepN L v) r = true := by
  induction hv with
  | @mk a d k c s t is ks hi hk ht hs h ih =>
    intro hmay hfit
    have hm := hmay
    simp only [mayB, Bool.and_eq_true, labB_mk] at hm
    obtain ⟨a0, a1⟩ := Lt.is_iff.1 hm.1.1
    obtain ⟨p, rfl⟩ : ∃ p : Nat, a = p := ⟨a.toNat, by omega⟩
    have hp : p < L.n := by omega
    rw [fitsN_mk, Bool.and_eq_true] at hfit
    obtain ⟨f1, f2⟩ := hfit
    have f1 : L.leq p r = true := by rw [← Lt.leqI_nat hp hr]; exact f1
    rw [deepN_mk, Int.toNat_natCast]
    have fold : ∀ (l : List ND) (ks : List ByteArray), (∀ x ∈ l, x ∈ is) → fitsNs L l k ks (.mk r [] [] r) = true → ∀ x ∈ l, L.leq (deepN L x) r = true := by
      intro l
      induction l with
      | nil => intro ks _ _ x hx; cases hx
      | cons x l lh =>
        intro ks hmm hf y hy
        have hx := hmm x (List.mem_cons_self ..)
        obtain ⟨e1, e2⟩ := may_d O (may_item hmay hx)
        rw [fitsNs_cons, Bool.and_eq_true] at hf
        rcases List.mem_cons.1 hy with rfl | hy
        · have hq : L.leqI y.d (r : Int) = true → L.leq (deepN L y) r = true := fun hh => by rw [e1, Lt.leqI_nat e2 hr] at hh; exact hh
          have hg : ∀ key, fitsN L y (ofT (.mk r [] [] r) key) = true → L.leq (deepN L y) r = true := fun key hh => by
            rw [ofT_plain] at hh
            exact ih y hx (may_item hmay hx) hh
          have h1 := hf.1
          cases ks with
          | nil => exact hq h1
          | cons key ks =>
            dsimp only at h1
            split at h1
            · exact hg key h1
            · exact hq h1
        · exact lh ks.tail (fun z hz => hmm z (List.mem_cons_of_mem _ hz)) hf.2 y hy
    exact leq_deepNs O hr is p hp hm.1.2 f1 (fold is ks (fun x hx => hx) f2)
end Go.Ab
