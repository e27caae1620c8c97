/- The reader's methods, by hand. -/
import Derived.Test.YtjmpjkalmhoomaaLayB
namespace Go.Ab
open Go.Proofs Go.RowKit
def hexL : List UInt8 := [48, 49, 50, 51, 52, 53, 54, 55, 56, 57, 97, 98, 99, 100, 101, 102]
def hexV (c : UInt8) : Int := if c.toNat < 48 then -1 else Lib.indexByte hexL (c ||| 32)
def hexN : List UInt8 → Int → Option Int
  | [], n => some n
  | c :: r, n => if hexV c < 0 then none else hexN r (16 * n + hexV c)
def fourL (l : List UInt8) : Option Int := if l.length < 4 then none else hexN (l.take 4) 0
def fourAns (l : List UInt8) : Value := match fourL l with | some n => .tuple #[.int .i32 n, .bool true] | none => .tuple #[.int .i32 0, .bool false]
def fourW (l : List UInt8) (b : Nat) (w : World) : World := match fourL l with | some n => w.setCell ⟨b, 0, none⟩ (.string ⟨(l.drop 4).toArray⟩) | none => w
theorem or_u8 (c : UInt8) : UInt8.ofNat (bits BinOp.or IntKind.u8 (c.toNat : Int) 32).toNat = c ||| 32 := by
  have h : ∀ n : Fin 256, UInt8.ofNat (bits BinOp.or IntKind.u8 (((UInt8.ofNat n.val).toNat : Nat) : Int) 32).toNat = UInt8.ofNat n.val ||| 32 := by decide +kernel
  have := h ⟨c.toNat, c.toNat_lt⟩
  simpa using this
theorem or_i32 (m v : Int) (h0 : 0 ≤ m) (h1 : m < 4096) (h2 : 0 ≤ v) (h3 : v < 16) : bits BinOp.or IntKind.i32 (wrap32 (m * 16)) (wrap32 v) = 16 * m + v := by
  have h : ∀ (a b : Fin 64) (v : Fin 16), bits BinOp.or IntKind.i32 (wrap32 ((64 * (a.val : Int) + (b.val : Int)) * 16)) (wrap32 (v.val : Int)) = 16 * (64 * (a.val : Int) + (b.val : Int)) + (v.val : Int) := by decide +kernel
  have := h ⟨(m / 64).toNat, by omega⟩ ⟨(m % 64).toNat, by omega⟩ ⟨v.toNat, by omega⟩
  simp only [Int.toNat_of_nonneg h2, Int.toNat_of_nonneg (show 0 ≤ m / 64 by omega), Int.toNat_of_nonneg (show 0 ≤ m % 64 by omega)] at this
  rw [show 64 * (m / 64) + m % 64 = m by omega] at this
  exact this
theorem index16 (c : UInt8) : Lib.indexByte hexL c < 16 := by
  have h : ∀ n : Fin 256, Lib.indexByte hexL (UInt8.ofNat n.val) < 16 := by decide +kernel
  have := h ⟨c.toNat, c.toNat_lt⟩
  simpa using this
set_option maxHeartbeats 4000000 in
set_option maxRecDepth 1000000 in
theorem four_walk (b : Nat) (l : List UInt8) (w : World) (h0 : w.cell? ⟨b, 0, none⟩ = some (.string ⟨l.toArray⟩)) (hf : w.frozen? ⟨b, 0, none⟩ = false) :
    Calls Try.prog 34 #[.pointer (some ⟨b, 0, none⟩)] w fun e w' => e = .returned (fourAns l) ∧ w' = fourW l b w := by
  have hsz : (⟨l.toArray⟩ : ByteArray).size = l.length := rfl
  by_cases hl : l.length < 4
  · go_enter Try.func34, Try.ntmps34
    go_wp2
    go_ret2
    have hn : fourL l = none := by unfold fourL; rw [if_pos hl]
    unfold fourAns fourW
    rw [hn]
    exact ⟨rfl, rfl⟩
  · go_enter Try.func34, Try.ntmps34
    go_wp2
    go_loopw [4, 13] (fun n i wr => ∃ (k : Nat) (m : Int), k ≤ 4 ∧ i = .int .i64 k ∧ n = .int .i32 m ∧ hexN (l.take 4) 0 = hexN ((l.take 4).drop k) m ∧ 0 ≤ m ∧ m < 16 ^ k ∧ wr = w) (fun _ i _ => 4 - (intOf i).toNat)
    case atStart => exact ⟨0, 0, by omega, rfl, rfl, rfl, by omega, by omega, rfl⟩
    case round =>
      obtain ⟨k, m, hk, rfl, rfl, hN, m0, m1, rfl⟩ := hrel
      by_cases hk4 : k < 4
      · have hkl : k < l.length := by omega
        have hor := or_u8 l[k]
        have hdr : (l.take 4).drop k = l[k] :: (l.take 4).drop (k + 1) := by
          rw [List.drop_eq_getElem_cons (by rw [List.length_take]; omega), List.getElem_take]
        have hge := Lib.indexByte_ge hexL (l[k] ||| 32)
        go_wp2_with (go_at_call 33; refine (Try.strings_IndexByte _ _ _).mono ?_; rintro e w1 ⟨rfl, rfl⟩)
        all_goals first | (case roundEnd =>
            rename_i _ _ _ _ hlow hup
            have hI : Lib.indexByte [48, 49, 50, 51, 52, 53, 54, 55, 56, 57, 97, 98, 99, 100, 101, 102] (UInt8.ofNat (bits BinOp.or IntKind.u8 ((({ data := l.toArray } : ByteArray)[k].toNat : Nat) : Int) 32).toNat) = Lib.indexByte hexL (l[k] ||| 32) := congrArg (Lib.indexByte hexL) hor
            rw [hI] at hup ⊢
            obtain ⟨u1, u2⟩ := hup
            have u3 : 48 ≤ l[k].toNat := by have : (48 : Int) ≤ ((({ data := l.toArray } : ByteArray)[k].toNat : Nat) : Int) := u2; exact_mod_cast this
            have hv : hexV l[k] = Lib.indexByte hexL (l[k] ||| 32) := by unfold hexV; rw [if_neg (by omega)]
            have hlt := index16 (l[k] ||| 32)
            have hm : m < 4096 := by
              have : (16 : Int) ^ k ≤ 16 ^ 3 := by
                match k, hk4 with
                | 0, _ => decide
                | 1, _ => decide
                | 2, _ => decide
                | 3, _ => decide
              omega
            rw [hdr] at hN
            simp only [hexN] at hN
            rw [hv, if_neg (by omega)] at hN
            refine ⟨⟨k + 1, 16 * m + Lib.indexByte hexL (l[k] ||| 32), by omega, by simp, by rw [or_i32 m _ m0 hm u1 hlt], hN, by omega, ?_, trivial⟩, by simp [intOf]; omega⟩
            rw [Int.pow_succ]; omega) | skip
        all_goals (
          go_ret2
          have hI : Lib.indexByte [48, 49, 50, 51, 52, 53, 54, 55, 56, 57, 97, 98, 99, 100, 101, 102] (UInt8.ofNat (bits BinOp.or IntKind.u8 ((({ data := l.toArray } : ByteArray)[k].toNat : Nat) : Int) 32).toNat) = Lib.indexByte hexL (l[k] ||| 32) := congrArg (Lib.indexByte hexL) hor
          have hv : hexV l[k] < 0 := by
            unfold hexV
            split
            · omega
            · rename_i h48
              rename_i h
              rw [hI] at h
              first
              | exact h
              | (rcases h with h | h
                 · exact h
                 · have h' : ((l[k].toNat : Nat) : Int) < 48 := h
                   omega)
          rw [hdr] at hN
          simp only [hexN] at hN
          rw [if_pos hv] at hN
          have hn : fourL l = none := by unfold fourL; rw [if_neg hl]; exact hN
          unfold fourAns fourW
          rw [hn]
          exact ⟨rfl, rfl⟩)
      · go_wp2
        go_ret2
        have hk3 : k = 4 := by omega
        subst hk3
        have e4 : (l.take 4).drop 4 = [] := List.drop_eq_nil_of_le (by rw [List.length_take]; omega)
        rw [e4] at hN
        have hn : fourL l = some m := by unfold fourL; rw [if_neg hl]; exact hN
        unfold fourAns fourW
        rw [hn]
        refine ⟨rfl, ?_⟩
        have : (({ data := l.toArray } : ByteArray).extract 4 l.length) = ⟨(l.drop 4).toArray⟩ := by
          apply ByteArray.ext
          rw [ByteArray.data_extract]
          apply Array.toList_inj.1
          simp
          exact List.take_of_length_le (by rw [List.length_drop]; omega)
        rw [this]
end Go.Ab
