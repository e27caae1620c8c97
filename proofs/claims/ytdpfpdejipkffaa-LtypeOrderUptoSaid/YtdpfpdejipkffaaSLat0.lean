/- Lattices told: what a lattice's cells say, and what its methods answer. -/
import Derived.Test.YtdpfpdejipkffaaT
namespace Go.Ab
set_option linter.unusedVariables false
set_option linter.unusedSimpArgs false

structure Lt where
  n : Nat
  leq : Nat → Nat → Bool
  join : Nat → Nat → Nat
  meet : Nat → Nat → Nat
  bot : Nat
  top : Nat

/-- An order with joins and meets. -/
structure Lt.Ok (L : Lt) : Prop where
  n1 : 1 ≤ L.n
  n8 : L.n ≤ 8
  bot : L.bot < L.n
  top : L.top < L.n
  botle : ∀ a, a < L.n → L.leq L.bot a = true
  letop : ∀ a, a < L.n → L.leq a L.top = true
  refl : ∀ a, a < L.n → L.leq a a = true
  anti : ∀ a b, a < L.n → b < L.n → L.leq a b = true → L.leq b a = true → a = b
  trans : ∀ a b c, a < L.n → b < L.n → c < L.n → L.leq a b = true → L.leq b c = true → L.leq a c = true
  join : ∀ a b, a < L.n → b < L.n → L.join a b < L.n
  joinl : ∀ a b, a < L.n → b < L.n → L.leq a (L.join a b) = true
  joinr : ∀ a b, a < L.n → b < L.n → L.leq b (L.join a b) = true
  joinm : ∀ a b c, a < L.n → b < L.n → c < L.n → L.leq a c = true → L.leq b c = true → L.leq (L.join a b) c = true
  meet : ∀ a b, a < L.n → b < L.n → L.meet a b < L.n
  meetl : ∀ a b, a < L.n → b < L.n → L.leq (L.meet a b) a = true
  meetr : ∀ a b, a < L.n → b < L.n → L.leq (L.meet a b) b = true
  meetm : ∀ a b c, a < L.n → b < L.n → c < L.n → L.leq c a = true → L.leq c b = true → L.leq c (L.meet a b) = true

structure IsLat (e : FV) (L : Lt) : Prop where
  ag : e.isAg 195 = true
  sl : (e.cell 0).isSl = true
  len : (e.cell 0).toSl.length = L.n
  leq : ∀ a b, a < L.n → b < L.n → e.cell (1 + a * 8 + b * 1) = .bool (L.leq a b)
  join : ∀ a b, a < L.n → b < L.n → e.cell (65 + a * 8 + b * 1) = .int .i64 (L.join a b)
  meet : ∀ a b, a < L.n → b < L.n → e.cell (129 + a * 8 + b * 1) = .int .i64 (L.meet a b)
  bot : e.cell 193 = .int .i64 L.bot
  top : e.cell 194 = .int .i64 L.top
  ok : L.Ok

/-- Is it a table of the order? -/
structure IsTab (t : List FV) (L : Lt) : Prop where
  len : t.length = L.n
  fits : ∀ a, a < L.n → FV.fits 1 false (t.getD a .nilp) = true
  sl : ∀ a, a < L.n → (t.getD a .nilp).isSl = true
  rlen : ∀ a, a < L.n → (t.getD a .nilp).toSl.length = L.n
  cell : ∀ a b, a < L.n → b < L.n → (t.getD a .nilp).toSl.getD b .nilp = .bool (L.leq a b)

def Lt.is (L : Lt) (a : Int) : Bool := decide (0 ≤ a) && decide (a < L.n)
def Lt.leqI (L : Lt) (a b : Int) : Bool := L.is a && (L.is b && L.leq a.toNat b.toNat)
def Lt.joinI (L : Lt) (a b : Int) : Nat := if L.is a = true ∧ L.is b = true then L.join a.toNat b.toNat else L.top
theorem Lt.is_iff {L : Lt} {a : Int} : L.is a = true ↔ 0 ≤ a ∧ a < L.n := by simp [Lt.is]
theorem Lt.is_nat {L : Lt} {a : Nat} : L.is (a : Int) = decide (a < L.n) := by
  rw [Bool.eq_iff_iff, Lt.is_iff]; simp
theorem Lt.Ok.joinI_lt {L : Lt} (O : L.Ok) (a b : Int) : L.joinI a b < L.n := by
  unfold Lt.joinI
  split
  · rename_i h
    have h1 := Lt.is_iff.1 h.1
    have h2 := Lt.is_iff.1 h.2
    exact O.join _ _ (by omega) (by omega)
  · exact O.top
section
variable {e : FV} {L : Lt} (I : IsLat e L)
include I
theorem lat_Size : Rt N_level_Lattice_Size [.fz (.pt 195 true e 0)] = some ([.fz (.int .i64 L.n)], []) := by
  refine rt_call A_level_Lattice_Size rfl rfl 0 ?_
  rw [E_level_Lattice_Size, I.ag, I.sl, I.len]; simp
theorem lat_Is (a : Int) : Rt N_level_Lattice_Is [.fz (.pt 195 true e 0), .fz (.int .i64 a)] = some ([.fz (.bool (L.is a))], []) := by
  refine rt_call A_level_Lattice_Is rfl rfl 0 ?_
  rw [E_level_Lattice_Is, lat_Size I]
  unfold Lt.is
  by_cases h : 0 ≤ a
  · simp [onR_some, h]
  · simp [onR_some, h]
theorem lat_Top : Rt N_level_Lattice_Top [.fz (.pt 195 true e 0)] = some ([.fz (.int .i64 L.top)], []) := by
  refine rt_call A_level_Lattice_Top rfl rfl 0 ?_
  rw [E_level_Lattice_Top, I.ag, I.top]; simp
theorem lat_Bottom : Rt N_level_Lattice_Bottom [.fz (.pt 195 true e 0)] = some ([.fz (.int .i64 L.bot)], []) := by
  refine rt_call A_level_Lattice_Bottom rfl rfl 0 ?_
  rw [E_level_Lattice_Bottom, I.ag, I.bot]; simp
theorem lat_Leq (a b : Int) : Rt N_level_Lattice_Leq [.fz (.pt 195 true e 0), .fz (.int .i64 a), .fz (.int .i64 b)] = some ([.fz (.bool (L.leqI a b))], []) := by
  refine rt_call A_level_Lattice_Leq rfl rfl 0 ?_
  rw [E_level_Lattice_Leq, lat_Is I, lat_Is I]
  unfold Lt.leqI
  cases ha : L.is a with
  | false => simp [onR_some]
  | true =>
    cases hb : L.is b with
    | false => simp [onR_some]
    | true =>
      have h1 := Lt.is_iff.1 ha
      have h2 := Lt.is_iff.1 hb
      have h8 := I.ok.n8
      have hl := I.leq a.toNat b.toNat (by omega) (by omega)
      rw [I.ag]
      have c : Nat.blt (1 + a.toNat * 8 + b.toNat * 1) 195 = true := by rw [Nat.blt_eq]; omega
      rw [Nat.mul_one] at hl c
      simp [onR_some, hl, c, h1.1, h2.1, show a < 8 by omega, show b < 8 by omega]
theorem lat_Join (a b : Int) : Rt N_level_Lattice_Join [.fz (.pt 195 true e 0), .fz (.int .i64 a), .fz (.int .i64 b)] = some ([.fz (.int .i64 (L.joinI a b))], []) := by
  refine rt_call A_level_Lattice_Join rfl rfl 0 ?_
  rw [E_level_Lattice_Join, lat_Is I, lat_Is I, lat_Top I]
  unfold Lt.joinI
  cases ha : L.is a with
  | false => simp [onR_some]
  | true =>
    cases hb : L.is b with
    | false => simp [onR_some]
    | true =>
      have h1 := Lt.is_iff.1 ha
      have h2 := Lt.is_iff.1 hb
      have h8 := I.ok.n8
      have hl := I.join a.toNat b.toNat (by omega) (by omega)
      have c : Nat.blt (65 + a.toNat * 8 + b.toNat * 1) 195 = true := by rw [Nat.blt_eq]; omega
      rw [Nat.mul_one] at hl c
      simp [onR_some, J_level_Lattice_Join_1_0_eq, hl, I.ag, c, h1.1, h2.1, show a < 8 by omega, show b < 8 by omega]
end
end Go.Ab
