/- What the bound on all that is read gives: each text, and each list, is small. -/
import Derived.Test.YtdpfpdejipkffaaRows
namespace Go.Proofs.Ytdpfpdejipkffaa
open Go Rows

def smallT (P : Program) (M : Nat) (ts : List Nat) : Bool := ts.all fun t => match P.underlying t with
  | some (.slice e) => ts.elem e && Nat.ble (P.bytesOf e) M
  | some (.struct fs) => fs.toList.all fun f => ts.elem f.type
  | some (.array _ e) => ts.elem e
  | some (.pointer e) => ts.elem e
  | some (.map _ _) => false
  | _ => true

theorem bulk_pos {H : Type} (d : DataW H) : 1 ≤ uptoBulk d := by
  cases d with
  | lit l => cases l <;> simp [uptoBulk]
  | _ => simp [uptoBulk]
theorem bulk_length {H : Type} : ∀ l : List (DataW H), l.length ≤ uptoBulkAll l
  | [] => by simp [uptoBulkAll]
  | d :: r => by
    have := bulk_pos d
    have := bulk_length r
    simp only [uptoBulkAll, List.length_cons]; omega

section
variable {H : Type} {P : Program} {M : Nat} {ts : List Nat}

theorem small_of (hT : smallT P M ts = true) {t : Nat} (ht : ts.elem t = true) {ds : TypeDesc} (hu : P.underlying t = some ds) :
    (match ds with
      | .slice e => ts.elem e = true ∧ P.bytesOf e ≤ M
      | .struct fs => ∀ f ∈ fs.toList, ts.elem f.type = true
      | .array _ e => ts.elem e = true
      | .pointer e => ts.elem e = true
      | .map _ _ => False
      | _ => True) := by
  have h := List.all_eq_true.1 hT t (by simpa using ht)
  rw [hu] at h
  cases ds <;> simp only [] <;> simp only [Bool.and_eq_true, Bool.false_eq_true] at h <;> first | trivial | exact h | skip
  · exact ⟨h.1, Nat.le_of_ble_eq_true h.2⟩
  · intro f hf; exact List.all_eq_true.1 h f hf

theorem mul_up {a b n M : Nat} (h : n ≤ a * M) (hab : a ≤ b) : n ≤ b * M := Nat.le_trans h (Nat.mul_le_mul_right M hab)

mutual
theorem weights_small (hM : 1 ≤ M) (hT : smallT P M ts = true) : ∀ (d : DataW H) (t : TypeId), ts.elem t = true → ∀ n ∈ d.weights P t, n ≤ uptoBulk d * M
  | .lit l, t, ht, n, hn => by
    cases l with
    | string bytes =>
      simp only [DataW.weights, List.mem_singleton] at hn
      subst hn
      simp only [uptoBulk]
      exact Nat.le_trans (Nat.le_succ _) (Nat.le_mul_of_pos_right _ hM)
    | _ => simp [DataW.weights] at hn
  | .nil, t, ht, n, hn => by simp [DataW.weights] at hn
  | .ptr d, t, ht, n, hn => by
    simp only [DataW.weights] at hn
    split at hn
    · rename_i e hu
      exact mul_up (weights_small hM hT d e (small_of hT ht hu) n hn) (by simp [uptoBulk])
    · cases hn
  | .slice elems spare, t, ht, n, hn => by
    simp only [DataW.weights] at hn
    split at hn
    · rename_i e hu
      obtain ⟨h1, h2⟩ := small_of hT ht hu
      rcases List.mem_cons.1 hn with rfl | hn
      · have a := bulk_length elems
        have b := bulk_length spare
        refine Nat.le_trans (Nat.mul_le_mul_left _ h2) (Nat.mul_le_mul_right M ?_)
        simp only [uptoBulk]; omega
      · rcases List.mem_append.1 hn with hn | hn
        · exact mul_up (weightsAll_small hM hT elems e h1 n hn) (by simp only [uptoBulk]; omega)
        · exact mul_up (weightsAll_small hM hT spare e h1 n hn) (by simp only [uptoBulk]; omega)
    · cases hn
  | .agg parts, t, ht, n, hn => by
    simp only [DataW.weights] at hn
    split at hn
    · rename_i fs hu
      have h1 := small_of hT ht hu
      exact mul_up (weightsEach_small hM hT parts (fs.toList.map (·.type)) (fun u hu => by obtain ⟨f, hf, rfl⟩ := List.mem_map.1 hu; exact h1 f hf) n hn) (by simp only [uptoBulk]; omega)
    · rename_i k e hu
      exact mul_up (weightsAll_small hM hT parts e (small_of hT ht hu) n hn) (by simp only [uptoBulk]; omega)
    · cases hn
  | .iface _ _, t, ht, n, hn => by simp [DataW.weights] at hn
  | .map entries, t, ht, n, hn => by
    simp only [DataW.weights] at hn
    split at hn
    · rename_i k e hu
      exact (small_of hT ht hu).elim
    · cases hn
  | .held _, t, ht, n, hn => by simp [DataW.weights] at hn
theorem weightsAll_small (hM : 1 ≤ M) (hT : smallT P M ts = true) : ∀ (l : List (DataW H)) (e : TypeId), ts.elem e = true → ∀ n ∈ DataW.weightsAll P e l, n ≤ uptoBulkAll l * M
  | [], e, he, n, hn => by simp [DataW.weightsAll] at hn
  | d :: r, e, he, n, hn => by
    simp only [DataW.weightsAll] at hn
    rcases List.mem_append.1 hn with hn | hn
    · exact mul_up (weights_small hM hT d e he n hn) (by simp only [uptoBulkAll]; omega)
    · exact mul_up (weightsAll_small hM hT r e he n hn) (by simp only [uptoBulkAll]; omega)
theorem weightsEach_small (hM : 1 ≤ M) (hT : smallT P M ts = true) : ∀ (l : List (DataW H)) (us : List TypeId), (∀ u ∈ us, ts.elem u = true) → ∀ n ∈ DataW.weightsEach P us l, n ≤ uptoBulkAll l * M
  | [], us, he, n, hn => by cases us <;> simp [DataW.weightsEach] at hn
  | d :: r, [], he, n, hn => by simp [DataW.weightsEach] at hn
  | d :: r, u :: us, he, n, hn => by
    simp only [DataW.weightsEach] at hn
    rcases List.mem_append.1 hn with hn | hn
    · exact mul_up (weights_small hM hT d u (he u (List.mem_cons_self ..)) n hn) (by simp only [uptoBulkAll]; omega)
    · exact mul_up (weightsEach_small hM hT r us (fun v hv => he v (List.mem_cons_of_mem _ hv)) n hn) (by simp only [uptoBulkAll]; omega)
end

/-- Each weight of what is read is at most so much, where all is of the bulk that the bound lets. -/
theorem weights_upto (hM : 1 ≤ M) (hT : smallT P M ts = true) {l : List (DataW H)} {us : List TypeId} (hu : us.all (ts.elem ·) = true) (hk : uptoSmall H l = true) : ∀ n ∈ DataW.weightsEach P us l, n ≤ 1048576 * M := fun n hn =>
  mul_up (weightsEach_small hM hT l us (fun u h => List.all_eq_true.1 hu u h) n hn) (of_decide_eq_true hk)
end
end Go.Proofs.Ytdpfpdejipkffaa
