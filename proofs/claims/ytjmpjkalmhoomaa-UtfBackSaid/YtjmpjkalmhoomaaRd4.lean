/- The reader's methods, by hand: all. -/
import Derived.Test.YtjmpjkalmhoomaaRd3
namespace Go.Ab
open Go.Proofs Go.RowKit
theorem encL_len (c : Int) : (encL c).length ≤ 4 := by
  have := (enc_pos c).2
  unfold encL; rw [Array.length_toList]; exact this
theorem pairL_len {rest out r o : List UInt8} {lone l : Bool} (h : pairL rest out lone = some (r, o, l)) : o.length + r.length ≤ out.length + rest.length ∧ r.length ≤ rest.length := by
  unfold pairL at h
  split at h
  · cases h
  · rename_i a ha
    have h4 : 4 ≤ rest.length := by
      unfold fourL at ha
      split at ha
      · cases ha
      · omega
    have := encL_len a
    split at h
    · cases h; rw [List.length_append, List.length_drop]; omega
    · split at h
      · cases h; rw [List.length_drop]; omega
      · split at h
        · cases h
        · rename_i c hc
          split at h
          · cases h; rw [List.length_drop]; omega
          · cases h
            have h6 : 4 ≤ (rest.drop 6).length := by
              unfold fourL at hc
              split at hc
              · cases hc
              · omega
            have := encL_len (65536 + (a - 55296) * 1024 + (c - 56320))
            rw [List.length_drop] at h6
            rw [List.length_append, List.length_drop]; omega
theorem escL_len {rest out r o : List UInt8} {lone l : Bool} (h : escL rest out lone = some (r, o, l)) : o.length + r.length ≤ out.length + rest.length ∧ r.length ≤ rest.length := by
  unfold escL at h
  split at h
  · cases h
  · split at h
    · have := pairL_len h; simp only [List.length_cons]; omega
    · split at h
      · cases h
      · cases h; simp only [List.length_append, List.length_cons, List.length_nil]; omega
/-- All of it. -/
def allN : Nat → List UInt8 → List UInt8 → Bool → Option (List UInt8 × Bool)
  | 0, _, out, lone => some (out, lone)
  | _ + 1, [], out, lone => some (out, lone)
  | n + 1, c :: r, out, lone => if c = 34 ∨ c.toNat < 32 then none else if c = 92 then (match escL r out lone with | none => none | some p => allN n p.1 p.2.1 p.2.2) else allN n r (out ++ [c]) lone
def strLen : Option Value → Nat | some (.string s) => s.size | _ => 0
def AllPost (B b : Nat) (r : Option (List UInt8 × Bool)) (w : World) (e : Ending) (w' : World) : Prop :=
  Below B w w' ∧ w.heap.size ≤ w'.heap.size ∧ match r with
    | some (o, l) => e = .returned (.bool true) ∧ RD B b [] o l w'
    | none => e = .returned (.bool false)
set_option maxHeartbeats 4000000 in
set_option maxRecDepth 1000000 in
theorem all_walk {B b : Nat} {l0 out0 : List UInt8} {lone0 : Bool} {w : World} (h : RD B b l0 out0 lone0 w) (hlen : out0.length + l0.length ≤ 1099511627776) :
    Calls Try.prog 23 #[.pointer (some ⟨b, 0, none⟩)] w (AllPost B b (allN l0.length l0 out0 lone0) w) := by
  go_enter Try.func23, Try.ntmps23
  go_wp2
  go_loopw [] (fun wr => ∃ (rest out : List UInt8) (lone : Bool) (n : Nat), RD B b rest out lone wr ∧ rest.length ≤ n ∧ allN n rest out lone = allN l0.length l0 out0 lone0 ∧ Below B w wr ∧ w.heap.size ≤ wr.heap.size ∧ out.length + rest.length ≤ 1099511627776) (fun wr => strLen (wr.cell? ⟨b, 0, none⟩))
  case atStart => exact ⟨l0, out0, lone0, l0.length, h, Nat.le_refl _, rfl, Below.refl _ _, Nat.le_refl _, hlen⟩
  case round =>
    obtain ⟨rest, out, lone, n, hr, hn, hall, hbw, hzw, hol⟩ := hrel
    have c0 := hr.cell0
    have f0 := hr.frozen 0
    cases rest with
    | nil =>
      have e : allN n [] out lone = some (out, lone) := by cases n <;> rfl
      go_wp2
      all_goals (
        go_ret
        rw [← hall, e]
        exact ⟨hbw, hzw, rfl, hr⟩)
    | cons c r =>
      simp only [List.length_cons] at hn hol
      obtain ⟨n, rfl⟩ : ∃ m, n = m + 1 := ⟨n - 1, by omega⟩
      simp only [allN] at hall
      have hx : (({ data := (c :: r).toArray } : ByteArray).extract 1 (r.length + 1)) = ⟨r.toArray⟩ := extract_to (c :: r) 1
      have hget : ({ data := (c :: r).toArray } : ByteArray)[0]'(by simp [ByteArray.size]) = c := rfl
      have h1 := hr.set0 r
      have hb1 := hbw.trans (hr.below 0 (.string ⟨r.toArray⟩))
      have hz1 := set_size wr ⟨b, 0, none⟩ (.string ⟨r.toArray⟩)
      have m0 : strLen (wr.cell? ⟨b, 0, none⟩) = r.length + 1 := by rw [c0]; rfl
      by_cases g1 : c = 34 ∨ c.toNat < 32
      · rw [if_pos g1] at hall
        have g1' : ((c.toNat : Nat) : Int) = 34 ∨ ((c.toNat : Nat) : Int) < 32 := by
          rcases g1 with rfl | g1
          · exact .inl rfl
          · exact .inr (by omega)
        go_wp2
        all_goals (
          go_ret
          rw [← hall]
          exact ⟨hb1, by omega, rfl⟩)
      · rw [if_neg g1] at hall
        have ga : ¬ ((c.toNat : Nat) : Int) = 34 := fun e => g1 (.inl (UInt8.toNat_inj.1 (by show c.toNat = 34; omega)))
        have gb : ¬ ((c.toNat : Nat) : Int) < 32 := fun e => g1 (.inr (by omega))
        by_cases g2 : c = 92
        · rw [if_pos g2] at hall
          subst g2
          clear ga gb
          have hc := esc_walk h1 (by omega)
          cases he : escL r out lone with
          | none =>
            rw [he] at hall hc
            have hc' : Calls Try.prog 28 #[.pointer (some ⟨b, 0, none⟩)] (wr.setCell ⟨b, 0, none⟩ (.string ⟨r.toArray⟩)) fun e w' => e = .returned (.bool false) ∧ Below B (wr.setCell ⟨b, 0, none⟩ (.string ⟨r.toArray⟩)) w' ∧ (wr.setCell ⟨b, 0, none⟩ (.string ⟨r.toArray⟩)).heap.size ≤ w'.heap.size := by
              refine hc.mono ?_
              rintro e w' ⟨x1, x2, x3⟩
              exact ⟨x3, x1, x2⟩
            go_wp2_with (first | (go_at_call 28; refine hc'.mono ?_; rintro e w2 ⟨rfl, b2, z2⟩))
            all_goals (
              go_ret
              rw [← hall]
              exact ⟨hb1.trans b2, by omega, rfl⟩)
          | some p =>
            obtain ⟨r', o', l'⟩ := p
            rw [he] at hall hc
            obtain ⟨q1, q2⟩ := escL_len he
            have hc' : Calls Try.prog 28 #[.pointer (some ⟨b, 0, none⟩)] (wr.setCell ⟨b, 0, none⟩ (.string ⟨r.toArray⟩)) fun e w' => e = .returned (.bool true) ∧ RD B b r' o' l' w' ∧ Below B (wr.setCell ⟨b, 0, none⟩ (.string ⟨r.toArray⟩)) w' ∧ (wr.setCell ⟨b, 0, none⟩ (.string ⟨r.toArray⟩)).heap.size ≤ w'.heap.size := by
              refine hc.mono ?_
              rintro e w' ⟨x1, x2, x3, x4⟩
              exact ⟨x3, x4, x1, x2⟩
            go_wp2_with (first | (go_at_call 28; refine hc'.mono ?_; rintro e w2 ⟨rfl, h2, b2, z2⟩))
            case roundEnd => exact ⟨⟨r', o', l', n, h2, by omega, hall, hb1.trans b2, by omega, by omega⟩, by rw [h2.cell0, m0]; show r'.length < r.length + 1; omega⟩
        · rw [if_neg g2] at hall
          have g2' : ¬ ((c.toNat : Nat) : Int) = 92 := fun e => g2 (UInt8.toNat_inj.1 (by show c.toNat = 92; omega))
          have hw := rd_byte h1 c (by omega)
          go_wp2_with (first | (go_at_call 29; refine hw.mono ?_; rintro e w3 ⟨rfl, h3, b3, z3⟩))
          case roundEnd => exact ⟨⟨r, out ++ [c], lone, n, h3, by omega, hall, hb1.trans b3, by omega, by simp; omega⟩, by rw [h3.cell0, m0]; show r.length < r.length + 1; omega⟩
end Go.Ab
