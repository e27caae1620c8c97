/- The reader's methods, by hand: escape, all, and utf.Unquote. -/
import Derived.Test.YtjmpjkalmhoomaaRd2
import Derived.Deep.RegionWith
namespace Go.Ab
open Go.Proofs Go.RowKit
def escI : List UInt8 := [34, 92, 47, 98, 102, 110, 114, 116]
def escO : List UInt8 := [34, 92, 47, 8, 12, 10, 13, 9]
/-- What stands behind a backslash. -/
def escL (rest out : List UInt8) (lone : Bool) : Option (List UInt8 × List UInt8 × Bool) :=
  match rest with
  | [] => none
  | c :: r => if c = 117 then pairL r out lone else if Lib.indexByte escI c < 0 then none else some (r, out ++ [escO.getD (Lib.indexByte escI c).toNat 0], lone)
theorem RdPost.ret {B b : Nat} {r : Option (List UInt8 × List UInt8 × Bool)} {w : World} {e : Ending} {w' : World} (h : RdPost B b r w e w') : e = .returned (.bool r.isSome) := by
  obtain ⟨_, _, h⟩ := h
  cases r with
  | none => exact h
  | some p => exact h.1
theorem RdPost.back {B b : Nat} {r : Option (List UInt8 × List UInt8 × Bool)} {w w1 : World} {e : Ending} {w' : World} (h : RdPost B b r w1 e w') (hb : Below B w w1) (hz : w.heap.size ≤ w1.heap.size) : RdPost B b r w e w' :=
  ⟨hb.trans h.1, Nat.le_trans hz h.2.1, h.2.2⟩
theorem esc_idx (c : UInt8) : Lib.indexByte escI c < 8 := by
  have h : ∀ n : Fin 256, Lib.indexByte escI (UInt8.ofNat n.val) < 8 := by decide +kernel
  have := h ⟨c.toNat, c.toNat_lt⟩
  simpa using this
set_option maxHeartbeats 1000000 in
set_option maxRecDepth 1000000 in
theorem esc_walk {B b : Nat} {rest out : List UInt8} {lone : Bool} {w : World} (h : RD B b rest out lone w) (hlen : out.length ≤ 1099511627776) :
    Calls Try.prog 28 #[.pointer (some ⟨b, 0, none⟩)] w (RdPost B b (escL rest out lone) w) := by
  have c0 := h.cell0
  have f0 := h.frozen 0
  go_enter Try.func28, Try.ntmps28
  cases rest with
  | nil =>
    have hp : escL [] out lone = none := rfl
    go_wp2
    all_goals (go_ret; exact ⟨Below.refl _ _, Nat.le_refl _, rfl⟩)
  | cons c r =>
    have hx : (({ data := (c :: r).toArray } : ByteArray).extract 1 (r.length + 1)) = ⟨r.toArray⟩ := extract_to (c :: r) 1
    have h1 := h.set0 r
    have hb1 := h.below 0 (.string ⟨r.toArray⟩)
    have hz1 := set_size w ⟨b, 0, none⟩ (.string ⟨r.toArray⟩)
    by_cases g : c = 117
    · subst g
      have hc := pair_walk h1 hlen
      have hp : escL (117 :: r) out lone = pairL r out lone := by unfold escL; simp only [if_true]
      go_wp2_with (first | (go_at_call 32; refine hc.mono ?_; rintro e w2 hpost; obtain rfl := hpost.ret))
      all_goals (
        go_ret
        rw [hp]
        exact hpost.back hb1 (by omega))
    · have hix := esc_idx c
      have hge := Lib.indexByte_ge escI c
      have hgu : ¬ c.toNat = 117 := fun e => g (UInt8.toNat_inj.1 e)
      have hne : ¬ ((c.toNat : Nat) : Int) = 117 := by omega
      have hget : ({ data := (c :: r).toArray } : ByteArray)[0]'(by simp [ByteArray.size]) = c := rfl
      have hcc := Try.strings_IndexByte ⟨escI.toArray⟩ (c.toNat : Int) (w.setCell ⟨b, 0, none⟩ (.string ⟨r.toArray⟩))
      have hct : (((c.toNat : Nat) : Int)).toNat.toUInt8 = c := by simp
      rw [hct] at hcc
      by_cases g2 : Lib.indexByte escI c < 0
      · have hp : escL (c :: r) out lone = none := by unfold escL; simp only []; rw [if_neg g, if_pos g2]
        go_wp2_with (first | (go_at_call 33; refine hcc.mono ?_; rintro e w2 ⟨rfl, rfl⟩))
        all_goals (
          go_ret
          try rw [hp]
          exact ⟨hb1, by omega, rfl⟩)
      · obtain ⟨kn, hkn⟩ : ∃ kn : Nat, Lib.indexByte escI c = kn := ⟨(Lib.indexByte escI c).toNat, by omega⟩
        have hk8 : kn < 8 := by omega
        have hp : escL (c :: r) out lone = some (r, out ++ [escO[kn]?.getD 0], lone) := by unfold escL; simp only []; rw [if_neg g, if_neg g2, hkn]; rfl
        have hcc' : Calls Try.prog 33 #[.string ⟨escI.toArray⟩, .int .u8 (c.toNat : Int)] (w.setCell ⟨b, 0, none⟩ (.string ⟨r.toArray⟩)) fun e w' => e = .returned (.int .i64 (kn : Int)) ∧ w' = w.setCell ⟨b, 0, none⟩ (.string ⟨r.toArray⟩) := by
          rw [← hkn]; exact hcc
        have hbd : kn < ({ data := #[34, 92, 47, 8, 12, 10, 13, 9] } : ByteArray).size := hk8
        have hw := rd_byte (w := (w.setCell ⟨b, 0, none⟩ (.string ⟨r.toArray⟩)).drew) h1 (escO[kn]?.getD 0) (by omega)
        have hzd : (w.setCell ⟨b, 0, none⟩ (.string ⟨r.toArray⟩)).drew.heap.size = (w.setCell ⟨b, 0, none⟩ (.string ⟨r.toArray⟩)).heap.size := rfl
        have hbd1 : Below B w (w.setCell ⟨b, 0, none⟩ (.string ⟨r.toArray⟩)).drew := hb1.drew
        have hel : ({ data := #[34, 92, 47, 8, 12, 10, 13, 9] } : ByteArray)[kn] = escO[kn]?.getD 0 := by
          match kn, hk8 with
          | 0, _ => rfl
          | 1, _ => rfl
          | 2, _ => rfl
          | 3, _ => rfl
          | 4, _ => rfl
          | 5, _ => rfl
          | 6, _ => rfl
          | 7, _ => rfl
        clear hcc hkn hix hge g2 hct
        go_wp2_with (first | (go_at_call 33; refine hcc'.mono ?_; rintro e w2 ⟨rfl, rfl⟩))
        go_region_with (go_at_call 29; refine hw.mono ?_; rintro e w3 ⟨rfl, h3, b3, z3⟩)
        all_goals (
          go_wp2
          go_ret
          try rw [hp]
          exact ⟨hbd1.trans b3, by omega, rfl, h3⟩)
end Go.Ab
