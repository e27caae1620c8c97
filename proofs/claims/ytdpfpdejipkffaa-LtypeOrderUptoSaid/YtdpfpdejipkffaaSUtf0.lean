/- The signs of a text, as the reference reads them. -/
import Derived.Test.YtdpfpdejipkffaaSJvB
namespace Go.Ab
set_option linter.unusedVariables false
set_option linter.unusedSimpArgs false

def cont : Nat → Int → List UInt8 → Option Int
  | 0, c, _ => some c
  | _ + 1, _, [] => none
  | n + 1, c, d :: r => if 128 ≤ d.toNat ∧ d.toNat ≤ 191 then cont n (64 * c + (d.toNat : Int) - 128) r else none

def putB (c : Int) : List Int :=
  if c < 128 then [c] else if c < 2048 then [192 + c / 64, 128 + c % 64] else if c < 65536 then [224 + c / 4096, 128 + c / 64 % 64, 128 + c % 64] else [240 + c / 262144, 128 + c / 4096 % 64, 128 + c / 64 % 64, 128 + c % 64]

def headC (b : Nat) : Int := if 240 ≤ b ∧ b < 248 then (b : Int) - 240 else if 224 ≤ b then (b : Int) - 224 else if 192 ≤ b then (b : Int) - 192 else b
def headN (b : Nat) : Nat := if 240 ≤ b ∧ b < 248 then 4 else if 224 ≤ b then 3 else if 192 ≤ b then 2 else 1

def toB (l : List Int) : List UInt8 := l.map fun e => UInt8.ofNat e.toNat

/-- The first sign: its number, and how many bytes it has. -/
def sgn : List UInt8 → Option (Int × Nat)
  | [] => none
  | b :: r =>
    if 248 ≤ b.toNat ∨ (128 ≤ b.toNat ∧ b.toNat < 192) ∨ r.length + 1 < headN b.toNat then none
    else match cont (headN b.toNat - 1) (headC b.toNat) r with
      | none => none
      | some c => if 1114111 < c ∨ (55296 ≤ c ∧ c < 57344) ∨ toB (putB c) ≠ (b :: r).take (headN b.toNat) then none else some (c, headN b.toNat)

def signsN : Nat → List UInt8 → Option (List Int)
  | _, [] => some []
  | 0, _ :: _ => none
  | n + 1, b :: r => match sgn (b :: r) with
    | none => none
    | some (c, k) => (signsN n ((b :: r).drop k)).map (c :: ·)
/-- The signs of a text. -/
def signsL (l : List UInt8) : Option (List Int) := signsN l.length l

theorem headN_le (b : Nat) : 1 ≤ headN b ∧ headN b ≤ 4 := by unfold headN; split <;> (try split) <;> (try split) <;> omega
theorem headC_le {b : Nat} (h : b < 248) : 0 ≤ headC b ∧ headC b ≤ 191 := by unfold headC; split <;> (try split) <;> (try split) <;> omega
theorem cont_nonneg : ∀ (n : Nat) (c : Int) (l : List UInt8) (c' : Int), 0 ≤ c → cont n c l = some c' → 0 ≤ c'
  | 0, c, _, c', h, e => by simp only [cont, Option.some.injEq] at e; omega
  | n + 1, c, [], c', h, e => by cases e
  | n + 1, c, d :: r, c', h, e => by
    simp only [cont] at e
    split at e
    · exact cont_nonneg n _ r c' (by omega) e
    · cases e

theorem wrap8 {n : Int} (h1 : 0 ≤ n) (h2 : n ≤ 255) : IntKind.wrap .u8 n = n := by
  simp only [IntKind.wrap]
  have : IntKind.bits .u8 = 8 := rfl
  have hs : IntKind.signed .u8 = false := rfl
  simp only [this, hs]
  simp
  omega

theorem put3_ok {c : Int} (h0 : 0 ≤ c) (h1 : c ≤ 1114111) : Rt N_ref03_Put [.fz (.int .i64 c)] = some ([.fz (.sl ((putB c).map (.int .u8)))], []) := by
  refine rt_call A_ref03_Put rfl rfl 0 ?_
  rw [E_ref03_Put]
  have t1 : Int.tdiv c 64 = c / 64 := Int.tdiv_eq_ediv_of_nonneg h0
  have t2 : Int.tdiv c 4096 = c / 4096 := Int.tdiv_eq_ediv_of_nonneg h0
  have t3 : Int.tdiv c 262144 = c / 262144 := Int.tdiv_eq_ediv_of_nonneg h0
  have t4 : Int.tmod c 64 = c % 64 := Int.tmod_eq_emod_of_nonneg h0
  have w1 : IntKind.wrap .i64 (c / 64) = c / 64 := wrap64 (by omega) (by omega)
  have w2 : IntKind.wrap .i64 (c / 4096) = c / 4096 := wrap64 (by omega) (by omega)
  have w3 : IntKind.wrap .i64 (c / 262144) = c / 262144 := wrap64 (by omega) (by omega)
  have t5 : Int.tmod (c / 64) 64 = c / 64 % 64 := Int.tmod_eq_emod_of_nonneg (by omega)
  have t6 : Int.tmod (c / 4096) 64 = c / 4096 % 64 := Int.tmod_eq_emod_of_nonneg (by omega)
  rw [t1, t2, t3, t4, w1, w2, w3, t5, t6]
  have v1 : IntKind.wrap .i64 (128 + c % 64) = 128 + c % 64 := wrap64 (by omega) (by omega)
  have v2 : IntKind.wrap .i64 (128 + c / 64 % 64) = 128 + c / 64 % 64 := wrap64 (by omega) (by omega)
  have v3 : IntKind.wrap .i64 (128 + c / 4096 % 64) = 128 + c / 4096 % 64 := wrap64 (by omega) (by omega)
  have v4 : IntKind.wrap .i64 (192 + c / 64) = 192 + c / 64 := wrap64 (by omega) (by omega)
  have v5 : IntKind.wrap .i64 (224 + c / 4096) = 224 + c / 4096 := wrap64 (by omega) (by omega)
  have v6 : IntKind.wrap .i64 (240 + c / 262144) = 240 + c / 262144 := wrap64 (by omega) (by omega)
  rw [v1, v2, v3, v4, v5, v6]
  have x1 : IntKind.wrap .u8 (128 + c % 64) = 128 + c % 64 := wrap8 (by omega) (by omega)
  have x2 : IntKind.wrap .u8 (128 + c / 64 % 64) = 128 + c / 64 % 64 := wrap8 (by omega) (by omega)
  have x3 : IntKind.wrap .u8 (128 + c / 4096 % 64) = 128 + c / 4096 % 64 := wrap8 (by omega) (by omega)
  have x6 : IntKind.wrap .u8 (240 + c / 262144) = 240 + c / 262144 := wrap8 (by omega) (by omega)
  unfold putB
  by_cases a1 : c < 128
  · have y : IntKind.wrap .u8 c = c := wrap8 (by omega) (by omega)
    simp [a1, y]
  · by_cases a2 : c < 2048
    · have x4 : IntKind.wrap .u8 (192 + c / 64) = 192 + c / 64 := wrap8 (by omega) (by omega)
      simp [a1, a2, x4, x1]
    · by_cases a3 : c < 65536
      · have x5 : IntKind.wrap .u8 (224 + c / 4096) = 224 + c / 4096 := wrap8 (by omega) (by omega)
        simp [a1, a2, a3, x5, x2, x1]
      · simp [a1, a2, a3, x6, x3, x2, x1]

theorem bytes_size (s : ByteArray) : s.data.toList.length = s.size := by rw [Array.length_toList]; rfl
theorem byteAt {s : ByteArray} {i : Nat} (h : i < s.data.toList.length) : Array.getD s.data i 0 = s.data.toList[i] := by
  have : i < s.data.size := by simpa using h
  unfold Array.getD
  rw [dif_pos this]
  simp
theorem extract_list (s : ByteArray) (a b : Nat) : (ByteArray.extract s a b).toList = (s.data.toList.take b).drop a := by
  rw [ByteArray.toList_eq, ByteArray.data_extract]
  simp [Array.toList_extract, List.extract_eq_take_drop, List.drop_take]
theorem u8_le (b : UInt8) : b.toNat ≤ 255 := by have := b.toNat_lt; omega

section
variable (s : ByteArray) (hs : s.size ≤ 8796093022208)
include hs

theorem inner1 (K n : Nat) (acc : List Int) : ∀ (j f i nn kk : Nat) (c : Int), j < f → kk + j = nn → nn ≤ 4 → i + nn ≤ s.size → 0 ≤ c → (c + 1) * (64 ^ j : Nat) ≤ 1099511627776 →
    onL (L_ref03_Signs_1_1 Rt K true f s i nn c kk (acc.map (.int .i64))) (K_ref03_Signs_1 Rt K true n) = (match cont j c (s.data.toList.drop (i + kk)) with
      | some c' => K_ref03_Signs_1 Rt K true n (.exit 2) (X_ref03_Signs_1_3 s i nn c' (acc.map (.int .i64)))
      | none => some (.ret, X_ref03_Signs_2_3 false (acc.map (.int .i64)))) := by
  intro j
  have hbs := bytes_size s
  induction j with
  | zero =>
    intro f i nn kk c hf h1 h2 h3 h4 h5
    obtain ⟨f, rfl⟩ : ∃ m, f = m + 1 := ⟨f - 1, by omega⟩
    rw [L_ref03_Signs_1_1_eq]
    have : decide ((kk : Int) < (nn : Int)) = false := by simp; omega
    simp only [this, ifB_false, onL_some, cont]
  | succ j jh =>
    intro f i nn kk c hf h1 h2 h3 h4 h5
    obtain ⟨f, rfl⟩ : ∃ m, f = m + 1 := ⟨f - 1, by omega⟩
    have hc : c ≤ 1099511627776 := by
      have h0 : (1 : Int) ≤ ((64 ^ (j + 1) : Nat) : Int) := by
        have := Nat.pow_pos (n := j + 1) (show 0 < 64 by omega)
        omega
      have := Int.mul_le_mul_of_nonneg_left h0 (show 0 ≤ c + 1 by omega)
      omega
    have hl : i + kk < s.data.toList.length := by omega
    rw [L_ref03_Signs_1_1_eq, drop_cons hl]
    have e1 : decide ((kk : Int) < (nn : Int)) = true := by simp; omega
    have e2 : IntKind.wrap .i64 ((i : Int) + (kk : Int)) = ((i + kk : Nat) : Int) := by rw [wrap64 (by omega) (by omega)]; omega
    have e3 : decide (((i + kk : Nat) : Int) < (s.size : Int)) = true := by simp; omega
    have e4 : decide ((0 : Int) ≤ ((i + kk : Nat) : Int)) = true := by simp; omega
    simp only [e1, e2, e3, e4, ifB_true, Bool.and_true, when_true', Int.toNat_natCast, byteAt hl]
    generalize s.data.toList[i + kk] = d
    have hd := u8_le d
    have e5 : IntKind.wrap .i64 ((d.toNat : Nat) : Int) = (d.toNat : Int) := wrap64 (by omega) (by omega)
    simp only [e5, cont]
    by_cases h : 128 ≤ d.toNat ∧ d.toNat ≤ 191
    · have a1 : decide (((d.toNat : Nat) : Int) < 128) = false := by simp; omega
      have a2 : decide (((d.toNat : Nat) : Int) > 191) = false := by simp; omega
      have w1 : IntKind.wrap .i64 (64 * c) = 64 * c := wrap64 (by omega) (by omega)
      have w2 : IntKind.wrap .i64 (64 * c + (d.toNat : Int)) = 64 * c + (d.toNat : Int) := wrap64 (by omega) (by omega)
      have w3 : IntKind.wrap .i64 (64 * c + (d.toNat : Int) - 128) = 64 * c + (d.toNat : Int) - 128 := wrap64 (by omega) (by omega)
      have w4 : IntKind.wrap .i64 ((kk : Int) + 1) = ((kk + 1 : Nat) : Int) := by rw [wrap64 (by omega) (by omega)]; omega
      have hstep : (64 * c + (d.toNat : Int) - 128 + 1) * ((64 ^ j : Nat) : Int) ≤ 1099511627776 := by
        rw [Nat.pow_succ, Int.natCast_mul, show ((64 : Nat) : Int) = 64 from rfl] at h5
        have hp : (0 : Int) ≤ ((64 ^ j : Nat) : Int) := Int.natCast_nonneg _
        generalize ((64 ^ j : Nat) : Int) = p at h5 hp
        have := Int.mul_le_mul_of_nonneg_right (show 64 * c + (d.toNat : Int) - 128 + 1 ≤ (c + 1) * 64 by omega) hp
        rw [Int.mul_assoc, Int.mul_comm 64 p] at this
        exact Int.le_trans this h5
      have := jh f i nn (kk + 1) (64 * c + (d.toNat : Int) - 128) (by omega) (by omega) h2 h3 (by omega) hstep
      simp only [a1, a2, ifB_false, jump_true, J_ref03_Signs_2_1_eq, w1, w2, w3, w4, if_pos h]
      rw [show i + kk + 1 = i + (kk + 1) by omega]
      exact this
    · rw [if_neg h]
      by_cases h' : d.toNat < 128
      · have a1 : decide (((d.toNat : Nat) : Int) < 128) = true := by simp; omega
        simp only [a1, ifB_true, onL_some, X_ref03_Signs_1_2_eq]
      · have a1 : decide (((d.toNat : Nat) : Int) < 128) = false := by simp; omega
        have a2 : decide (((d.toNat : Nat) : Int) > 191) = true := by simp; omega
        simp only [a1, a2, ifB_true, ifB_false, onL_some, X_ref03_Signs_1_2_eq]

theorem signs_last1 (K n : Nat) (acc : List Int) (hacc : acc.length ≤ 8796093022208) (i nn : Nat) (c : Int) (h0 : 0 ≤ c) (hi : i + nn ≤ s.size) :
    K_ref03_Signs_1 Rt K true n (.exit 2) (X_ref03_Signs_1_3 s i nn c (acc.map (.int .i64))) = (if 1114111 < c ∨ (55296 ≤ c ∧ c < 57344) ∨ toB (putB c) ≠ (s.data.toList.drop i).take nn then some (.ret, X_ref03_Signs_2_3 false (acc.map (.int .i64))) else L_ref03_Signs_2_1 Rt K true n s ((i + nn : Nat) : Int) ((acc ++ [c]).map (.int .i64))) := by
  rw [X_ref03_Signs_1_3_eq]
  have ew : IntKind.wrap .i64 ((i : Int) + (nn : Int)) = ((i + nn : Nat) : Int) := by rw [wrap64 (by omega) (by omega)]; omega
  have ex : (s.data.toList.take (i + nn)).drop i = (s.data.toList.drop i).take nn := by rw [List.drop_take]; congr 1; omega
  have tail : 1114111 ≥ c → onR (Rt N_ref03_Put [.fz (.int .i64 c)]) (fun r0 => when (List.isEmpty r0.2 && allF [.fz] r0.1) (when ((FV.isSl (TV.toF (List.getD r0.1 0 TV.em))) && (List.all (FV.toSl (TV.toF (List.getD r0.1 0 TV.em))) (FV.fits 1 false))) (when (List.all (FV.toSl (TV.toF (List.getD r0.1 0 TV.em))) (FV.isInt .u8)) (when (decide (0 ≤ (IntKind.wrap .i64 ((i : Int) + (nn : Int)))) && decide ((IntKind.wrap .i64 ((i : Int) + (nn : Int))) ≤ (ByteArray.size s : Int))) (when (decide (0 ≤ (i : Int)) && decide ((i : Int) ≤ (IntKind.wrap .i64 ((i : Int) + (nn : Int))))) (ifB (!(ByteArray.toList (⟨(List.map (fun e => UInt8.ofNat (FV.toInt e).toNat) (FV.toSl (TV.toF (List.getD r0.1 0 TV.em)))).toArray⟩ : ByteArray) == ByteArray.toList (ByteArray.extract s (Int.toNat (i : Int)) (Int.toNat (IntKind.wrap .i64 ((i : Int) + (nn : Int)))))))
      (some (.ret, X_ref03_Signs_2_3 false (acc.map (.int .i64)))) (jump true (J_ref03_Signs_4_1 Rt K true n s i nn c (acc.map (.int .i64)))))))))) = (if toB (putB c) ≠ (s.data.toList.drop i).take nn then some (.ret, X_ref03_Signs_2_3 false (acc.map (.int .i64))) else L_ref03_Signs_2_1 Rt K true n s ((i + nn : Nat) : Int) ((acc ++ [c]).map (.int .i64))) := fun h1 => by
    rw [put3_ok h0 h1, onR_some, ew]
    have g1 : decide ((0 : Int) ≤ ((i + nn : Nat) : Int)) = true := by simp; omega
    have g2 : decide (((i + nn : Nat) : Int) ≤ (s.size : Int)) = true := by simp; omega
    have g3 : decide ((0 : Int) ≤ (i : Int)) = true := by simp
    have g4 : decide ((i : Int) ≤ ((i + nn : Nat) : Int)) = true := by simp; omega
    have g5 : (List.all ((putB c).map (FV.int .u8)) (FV.isInt .u8)) = true := by simp
    have g6 : List.map (fun e => UInt8.ofNat (FV.toInt e).toNat) ((putB c).map (FV.int .u8)) = toB (putB c) := by simp [toB, FV.toInt]
    have g7 : (⟨(toB (putB c)).toArray⟩ : ByteArray).toList = toB (putB c) := by rw [ByteArray.toList_eq]
    simp only [List.isEmpty_nil, allF_cons, allF_nil, Bool.and_true, when_true', List.getD_cons_zero, toF_fz, isSl_sl, toSl_sl, all_fits_int, g1, g2, g3, g4, g5, g6, g7, Int.toNat_natCast, extract_list, ex]
    by_cases h : toB (putB c) = (s.data.toList.drop i).take nn
    · have : (toB (putB c) == (s.data.toList.drop i).take nn) = true := by simpa using h
      rw [if_neg (by simpa using h)]
      have r1 : decide ((List.length (acc.map (FV.int .i64)) + List.length [FV.int .i64 c]) * 8 ≤ roomy) = true := by first | (simp [roomy]; done) | (simp [roomy]; omega)
      have r2 : decide (List.length (acc.map (FV.int .i64)) + List.length [FV.int .i64 c] ≤ roomy) = true := by first | (simp [roomy]; done) | (simp [roomy]; omega)
      simp only [this, Bool.not_true, ifB_false, jump_true, J_ref03_Signs_4_1_eq, ew, r1, r2, Bool.and_true, when_true']
      rw [List.map_append]; exact Eq.refl _
    · have : (toB (putB c) == (s.data.toList.drop i).take nn) = false := by simpa using h
      rw [if_pos (by simpa using h)]
      simp only [this, Bool.not_false, ifB_true]
  by_cases h1 : c ≤ 1114111
  · have a1 : decide (c > 1114111) = false := by simp; omega
    by_cases h2 : 55296 ≤ c
    · have a2 : decide (c ≥ 55296) = true := by simp; omega
      by_cases h3 : c < 57344
      · have a3 : decide (c < 57344) = true := by simp; omega
        rw [if_pos (.inr (.inl ⟨h2, h3⟩))]
        simp only [a1, a2, a3, ifB_false, ifB_true]
      · have a3 : decide (c < 57344) = false := by simp; omega
        have : (1114111 < c ∨ (55296 ≤ c ∧ c < 57344) ∨ toB (putB c) ≠ (s.data.toList.drop i).take nn) ↔ toB (putB c) ≠ (s.data.toList.drop i).take nn := ⟨fun h => by rcases h with h | h | h <;> first | exact h | omega, fun h => .inr (.inr h)⟩
        simp only [a1, a2, a3, ifB_false, ifB_true, this]
        exact tail h1
    · have a2 : decide (c ≥ 55296) = false := by simp; omega
      have : (1114111 < c ∨ (55296 ≤ c ∧ c < 57344) ∨ toB (putB c) ≠ (s.data.toList.drop i).take nn) ↔ toB (putB c) ≠ (s.data.toList.drop i).take nn := ⟨fun h => by rcases h with h | h | h <;> first | exact h | omega, fun h => .inr (.inr h)⟩
      simp only [a1, a2, ifB_false, this]
      exact tail h1
  · have a1 : decide (c > 1114111) = true := by simp; omega
    rw [if_pos (.inl (by omega))]
    simp only [a1, ifB_true]

theorem signs_round1 (K n : Nat) (hK : 5 ≤ K) (acc : List Int) (hacc : acc.length ≤ 8796093022208) (i : Nat) (hi : i < s.data.toList.length) :
    L_ref03_Signs_2_1 Rt K true (n + 1) s i (acc.map (.int .i64)) = (match sgn (s.data.toList.drop i) with
      | some (c, k) => L_ref03_Signs_2_1 Rt K true n s ((i + k : Nat) : Int) ((acc ++ [c]).map (.int .i64))
      | none => some (.ret, X_ref03_Signs_2_3 false (acc.map (.int .i64)))) := by
  have hbs := bytes_size s
  rw [L_ref03_Signs_2_1_eq, drop_cons hi]
  have e1 : decide ((i : Int) < (s.size : Int)) = true := by simp; omega
  have e2 : decide ((0 : Int) ≤ (i : Int)) = true := by simp
  simp only [e1, e2, ifB_true, Bool.and_true, when_true', Int.toNat_natCast, byteAt hi]
  have hdr : s.data.toList.drop i = s.data.toList[i] :: s.data.toList.drop (i + 1) := drop_cons hi
  have hlen : (s.data.toList.drop (i + 1)).length + 1 + i = s.size := by rw [List.length_drop]; omega
  generalize s.data.toList[i] = b at *
  have hb := u8_le b
  have e5 : IntKind.wrap .i64 ((b.toNat : Nat) : Int) = (b.toNat : Int) := wrap64 (by omega) (by omega)
  simp only [e5]
  have hN := headN_le b.toNat
  have j7 : (ifB (decide ((b.toNat : Int) ≥ 240)) (jump true (J_ref03_Signs_1_1 Rt K true n s i (b.toNat : Int) 1 (b.toNat : Int) (decide ((b.toNat : Int) < 248)) (acc.map (.int .i64)))) (jump true (J_ref03_Signs_1_1 Rt K true n s i (b.toNat : Int) 1 (b.toNat : Int) false (acc.map (.int .i64))))) = J_ref03_Signs_7_1 Rt K true n s i (b.toNat : Int) (headN b.toNat) (headC b.toNat) (acc.map (.int .i64)) := by
    unfold headN headC
    have w1 : 240 ≤ b.toNat → IntKind.wrap .i64 ((b.toNat : Int) - 240) = (b.toNat : Int) - 240 := fun _ => wrap64 (by omega) (by omega)
    have w2 : IntKind.wrap .i64 ((b.toNat : Int) - 224) = (b.toNat : Int) - 224 := wrap64 (by omega) (by omega)
    have w3 : IntKind.wrap .i64 ((b.toNat : Int) - 192) = (b.toNat : Int) - 192 := wrap64 (by omega) (by omega)
    by_cases h1 : 240 ≤ b.toNat
    · have a1 : decide ((b.toNat : Int) ≥ 240) = true := by simp; omega
      have a3 : decide ((b.toNat : Int) ≥ 224) = true := by simp; omega
      by_cases h2 : b.toNat < 248
      · have a2 : decide ((b.toNat : Int) < 248) = true := by simp; omega
        simp only [a1, a2, ifB_true, jump_true, J_ref03_Signs_1_1_eq, w1 h1, if_pos (show 240 ≤ b.toNat ∧ b.toNat < 248 from ⟨h1, h2⟩)]
        exact Eq.refl _
      · have a2 : decide ((b.toNat : Int) < 248) = false := by simp; omega
        simp only [a1, a2, a3, ifB_true, ifB_false, jump_true, J_ref03_Signs_1_1_eq, w2, if_neg (show ¬ (240 ≤ b.toNat ∧ b.toNat < 248) by omega), if_pos (show 224 ≤ b.toNat by omega)]
        exact Eq.refl _
    · have a1 : decide ((b.toNat : Int) ≥ 240) = false := by simp; omega
      rw [if_neg (show ¬ (240 ≤ b.toNat ∧ b.toNat < 248) by omega), if_neg (show ¬ (240 ≤ b.toNat ∧ b.toNat < 248) by omega)]
      by_cases h3 : 224 ≤ b.toNat
      · have a3 : decide ((b.toNat : Int) ≥ 224) = true := by simp; omega
        simp only [a1, a3, ifB_true, ifB_false, jump_true, J_ref03_Signs_1_1_eq, w2, if_pos h3]
        exact Eq.refl _
      · have a3 : decide ((b.toNat : Int) ≥ 224) = false := by simp; omega
        by_cases h4 : 192 ≤ b.toNat
        · have a4 : decide ((b.toNat : Int) ≥ 192) = true := by simp; omega
          simp only [a1, a3, a4, ifB_true, ifB_false, jump_true, J_ref03_Signs_1_1_eq, w3, if_neg h3, if_pos h4]
          exact Eq.refl _
        · have a4 : decide ((b.toNat : Int) ≥ 192) = false := by simp; omega
          simp only [a1, a3, a4, ifB_true, ifB_false, jump_true, J_ref03_Signs_1_1_eq, if_neg h3, if_neg h4]
          exact Eq.refl _
  rw [j7, J_ref03_Signs_7_1_eq]
  have ew : IntKind.wrap .i64 ((i : Int) + (headN b.toNat : Int)) = ((i + headN b.toNat : Nat) : Int) := by rw [wrap64 (by omega) (by omega)]; omega
  simp only [sgn]
  by_cases h1 : 248 ≤ b.toNat
  · have a1 : decide ((b.toNat : Int) ≥ 248) = true := by simp; omega
    rw [if_pos (.inl h1)]
    simp only [a1, ifB_true]
  · have a1 : decide ((b.toNat : Int) ≥ 248) = false := by simp; omega
    by_cases h2 : 128 ≤ b.toNat ∧ b.toNat < 192
    · have a2 : decide ((b.toNat : Int) ≥ 128) = true := by simp; omega
      have a3 : decide ((b.toNat : Int) < 192) = true := by simp; omega
      rw [if_pos (.inr (.inl h2))]
      simp only [a1, a2, a3, ifB_true, ifB_false]
    · by_cases h3 : (s.data.toList.drop (i + 1)).length + 1 < headN b.toNat
      · have a4 : decide (((i + headN b.toNat : Nat) : Int) > (s.size : Int)) = true := by simp; omega
        rw [if_pos (.inr (.inr h3))]
        by_cases h4 : 128 ≤ b.toNat
        · have a2 : decide ((b.toNat : Int) ≥ 128) = true := by simp; omega
          have a3 : decide ((b.toNat : Int) < 192) = false := by simp; omega
          simp only [a1, a2, a3, ew, a4, ifB_true, ifB_false]
        · have a2 : decide ((b.toNat : Int) ≥ 128) = false := by simp; omega
          simp only [a1, a2, ew, a4, ifB_true, ifB_false]
      · have a4 : decide (((i + headN b.toNat : Nat) : Int) > (s.size : Int)) = false := by simp; omega
        rw [if_neg (by rintro (h | h | h); exact h1 h; exact h2 h; exact h3 h)]
        have j6 : J_ref03_Signs_6_1 Rt K true n s i (headN b.toNat) (headC b.toNat) (acc.map (.int .i64)) = (match (match cont (headN b.toNat - 1) (headC b.toNat) (s.data.toList.drop (i + 1)) with
            | none => none
            | some c => if 1114111 < c ∨ (55296 ≤ c ∧ c < 57344) ∨ toB (putB c) ≠ (b :: s.data.toList.drop (i + 1)).take (headN b.toNat) then none else some (c, headN b.toNat)) with
            | some (c, k) => L_ref03_Signs_2_1 Rt K true n s ((i + k : Nat) : Int) ((acc ++ [c]).map (.int .i64))
            | none => some (.ret, X_ref03_Signs_2_3 false (acc.map (.int .i64)))) := by
          obtain ⟨K', rfl⟩ : ∃ m, K = m + 5 := ⟨K - 5, by omega⟩
          rw [J_ref03_Signs_6_1_eq]
          have hc := headC_le (show b.toNat < 248 by omega)
          have hp : (headC b.toNat + 1) * ((64 ^ (headN b.toNat - 1) : Nat) : Int) ≤ 1099511627776 := by
            have : ((64 ^ (headN b.toNat - 1) : Nat) : Int) ≤ 262144 := by
              have := Nat.pow_le_pow_right (show 0 < 64 by omega) (show headN b.toNat - 1 ≤ 3 by omega)
              omega
            have := Int.mul_le_mul_of_nonneg_left this (show 0 ≤ headC b.toNat + 1 by omega)
            omega
          have := inner1 s hs (K' + 5) n acc (headN b.toNat - 1) (K' + 5) i (headN b.toNat) 1 (headC b.toNat) (by omega) (by omega) hN.2 (by omega) hc.1 hp
          rw [show ((1 : Nat) : Int) = 1 from rfl] at this
          rw [this]
          cases hct : cont (headN b.toNat - 1) (headC b.toNat) (s.data.toList.drop (i + 1)) with
          | none => simp only []
          | some c =>
            have h0 := cont_nonneg _ _ _ _ hc.1 hct
            simp only []
            rw [signs_last1 s hs (K' + 5) n acc hacc i (headN b.toNat) c h0 (by omega), hdr]
            split
            · simp only []
            · simp only []
        by_cases h4 : 128 ≤ b.toNat
        · have a2 : decide ((b.toNat : Int) ≥ 128) = true := by simp; omega
          have a3 : decide ((b.toNat : Int) < 192) = false := by simp; omega
          simp only [a1, a2, a3, ew, a4, ifB_true, ifB_false, jump_true]
          exact j6
        · have a2 : decide ((b.toNat : Int) ≥ 128) = false := by simp; omega
          simp only [a1, a2, ew, a4, ifB_true, ifB_false, jump_true]
          exact j6

theorem inner0 (K n : Nat) : ∀ (j f i nn kk : Nat) (c : Int), j < f → kk + j = nn → nn ≤ 4 → i + nn ≤ s.size → 0 ≤ c → (c + 1) * (64 ^ j : Nat) ≤ 1099511627776 →
    onL (L_ref03_Signs_1_0 Rt K true f s i nn c kk) (K_ref03_Signs_1 Rt K true n) = (match cont j c (s.data.toList.drop (i + kk)) with
      | some c' => K_ref03_Signs_1 Rt K true n (.exit 2) (X_ref03_Signs_1_1 s i nn c')
      | none => some (.ret, X_ref03_Signs_2_1 false)) := by
  intro j
  have hbs := bytes_size s
  induction j with
  | zero =>
    intro f i nn kk c hf h1 h2 h3 h4 h5
    obtain ⟨f, rfl⟩ : ∃ m, f = m + 1 := ⟨f - 1, by omega⟩
    rw [L_ref03_Signs_1_0_eq]
    have : decide ((kk : Int) < (nn : Int)) = false := by simp; omega
    simp only [this, ifB_false, onL_some, cont]
  | succ j jh =>
    intro f i nn kk c hf h1 h2 h3 h4 h5
    obtain ⟨f, rfl⟩ : ∃ m, f = m + 1 := ⟨f - 1, by omega⟩
    have hc : c ≤ 1099511627776 := by
      have h0 : (1 : Int) ≤ ((64 ^ (j + 1) : Nat) : Int) := by
        have := Nat.pow_pos (n := j + 1) (show 0 < 64 by omega)
        omega
      have := Int.mul_le_mul_of_nonneg_left h0 (show 0 ≤ c + 1 by omega)
      omega
    have hl : i + kk < s.data.toList.length := by omega
    rw [L_ref03_Signs_1_0_eq, drop_cons hl]
    have e1 : decide ((kk : Int) < (nn : Int)) = true := by simp; omega
    have e2 : IntKind.wrap .i64 ((i : Int) + (kk : Int)) = ((i + kk : Nat) : Int) := by rw [wrap64 (by omega) (by omega)]; omega
    have e3 : decide (((i + kk : Nat) : Int) < (s.size : Int)) = true := by simp; omega
    have e4 : decide ((0 : Int) ≤ ((i + kk : Nat) : Int)) = true := by simp; omega
    simp only [e1, e2, e3, e4, ifB_true, Bool.and_true, when_true', Int.toNat_natCast, byteAt hl]
    generalize s.data.toList[i + kk] = d
    have hd := u8_le d
    have e5 : IntKind.wrap .i64 ((d.toNat : Nat) : Int) = (d.toNat : Int) := wrap64 (by omega) (by omega)
    simp only [e5, cont]
    by_cases h : 128 ≤ d.toNat ∧ d.toNat ≤ 191
    · have a1 : decide (((d.toNat : Nat) : Int) < 128) = false := by simp; omega
      have a2 : decide (((d.toNat : Nat) : Int) > 191) = false := by simp; omega
      have w1 : IntKind.wrap .i64 (64 * c) = 64 * c := wrap64 (by omega) (by omega)
      have w2 : IntKind.wrap .i64 (64 * c + (d.toNat : Int)) = 64 * c + (d.toNat : Int) := wrap64 (by omega) (by omega)
      have w3 : IntKind.wrap .i64 (64 * c + (d.toNat : Int) - 128) = 64 * c + (d.toNat : Int) - 128 := wrap64 (by omega) (by omega)
      have w4 : IntKind.wrap .i64 ((kk : Int) + 1) = ((kk + 1 : Nat) : Int) := by rw [wrap64 (by omega) (by omega)]; omega
      have hstep : (64 * c + (d.toNat : Int) - 128 + 1) * ((64 ^ j : Nat) : Int) ≤ 1099511627776 := by
        rw [Nat.pow_succ, Int.natCast_mul, show ((64 : Nat) : Int) = 64 from rfl] at h5
        have hp : (0 : Int) ≤ ((64 ^ j : Nat) : Int) := Int.natCast_nonneg _
        generalize ((64 ^ j : Nat) : Int) = p at h5 hp
        have := Int.mul_le_mul_of_nonneg_right (show 64 * c + (d.toNat : Int) - 128 + 1 ≤ (c + 1) * 64 by omega) hp
        rw [Int.mul_assoc, Int.mul_comm 64 p] at this
        exact Int.le_trans this h5
      have := jh f i nn (kk + 1) (64 * c + (d.toNat : Int) - 128) (by omega) (by omega) h2 h3 (by omega) hstep
      simp only [a1, a2, ifB_false, jump_true, J_ref03_Signs_2_0_eq, w1, w2, w3, w4, if_pos h]
      rw [show i + kk + 1 = i + (kk + 1) by omega]
      exact this
    · rw [if_neg h]
      by_cases h' : d.toNat < 128
      · have a1 : decide (((d.toNat : Nat) : Int) < 128) = true := by simp; omega
        simp only [a1, ifB_true, onL_some, X_ref03_Signs_1_0_eq]
      · have a1 : decide (((d.toNat : Nat) : Int) < 128) = false := by simp; omega
        have a2 : decide (((d.toNat : Nat) : Int) > 191) = true := by simp; omega
        simp only [a1, a2, ifB_true, ifB_false, onL_some, X_ref03_Signs_1_0_eq]

theorem signs_last0 (K n : Nat) (hacc : 0 ≤ 8796093022208) (i nn : Nat) (c : Int) (h0 : 0 ≤ c) (hi : i + nn ≤ s.size) :
    K_ref03_Signs_1 Rt K true n (.exit 2) (X_ref03_Signs_1_1 s i nn c) = (if 1114111 < c ∨ (55296 ≤ c ∧ c < 57344) ∨ toB (putB c) ≠ (s.data.toList.drop i).take nn then some (.ret, X_ref03_Signs_2_1 false) else L_ref03_Signs_2_1 Rt K true n s ((i + nn : Nat) : Int) ([.int .i64 c])) := by
  rw [X_ref03_Signs_1_1_eq]
  have ew : IntKind.wrap .i64 ((i : Int) + (nn : Int)) = ((i + nn : Nat) : Int) := by rw [wrap64 (by omega) (by omega)]; omega
  have ex : (s.data.toList.take (i + nn)).drop i = (s.data.toList.drop i).take nn := by rw [List.drop_take]; congr 1; omega
  have tail : 1114111 ≥ c → onR (Rt N_ref03_Put [.fz (.int .i64 c)]) (fun r0 => when (List.isEmpty r0.2 && allF [.fz] r0.1) (when ((FV.isSl (TV.toF (List.getD r0.1 0 TV.em))) && (List.all (FV.toSl (TV.toF (List.getD r0.1 0 TV.em))) (FV.fits 1 false))) (when (List.all (FV.toSl (TV.toF (List.getD r0.1 0 TV.em))) (FV.isInt .u8)) (when (decide (0 ≤ (IntKind.wrap .i64 ((i : Int) + (nn : Int)))) && decide ((IntKind.wrap .i64 ((i : Int) + (nn : Int))) ≤ (ByteArray.size s : Int))) (when (decide (0 ≤ (i : Int)) && decide ((i : Int) ≤ (IntKind.wrap .i64 ((i : Int) + (nn : Int))))) (ifB (!(ByteArray.toList (⟨(List.map (fun e => UInt8.ofNat (FV.toInt e).toNat) (FV.toSl (TV.toF (List.getD r0.1 0 TV.em)))).toArray⟩ : ByteArray) == ByteArray.toList (ByteArray.extract s (Int.toNat (i : Int)) (Int.toNat (IntKind.wrap .i64 ((i : Int) + (nn : Int)))))))
      (some (.ret, X_ref03_Signs_2_1 false)) (jump true (J_ref03_Signs_4_0 Rt K true n s i nn c)))))))) = (if toB (putB c) ≠ (s.data.toList.drop i).take nn then some (.ret, X_ref03_Signs_2_1 false) else L_ref03_Signs_2_1 Rt K true n s ((i + nn : Nat) : Int) ([.int .i64 c])) := fun h1 => by
    rw [put3_ok h0 h1, onR_some, ew]
    have g1 : decide ((0 : Int) ≤ ((i + nn : Nat) : Int)) = true := by simp; omega
    have g2 : decide (((i + nn : Nat) : Int) ≤ (s.size : Int)) = true := by simp; omega
    have g3 : decide ((0 : Int) ≤ (i : Int)) = true := by simp
    have g4 : decide ((i : Int) ≤ ((i + nn : Nat) : Int)) = true := by simp; omega
    have g5 : (List.all ((putB c).map (FV.int .u8)) (FV.isInt .u8)) = true := by simp
    have g6 : List.map (fun e => UInt8.ofNat (FV.toInt e).toNat) ((putB c).map (FV.int .u8)) = toB (putB c) := by simp [toB, FV.toInt]
    have g7 : (⟨(toB (putB c)).toArray⟩ : ByteArray).toList = toB (putB c) := by rw [ByteArray.toList_eq]
    simp only [List.isEmpty_nil, allF_cons, allF_nil, Bool.and_true, when_true', List.getD_cons_zero, toF_fz, isSl_sl, toSl_sl, all_fits_int, g1, g2, g3, g4, g5, g6, g7, Int.toNat_natCast, extract_list, ex]
    by_cases h : toB (putB c) = (s.data.toList.drop i).take nn
    · have : (toB (putB c) == (s.data.toList.drop i).take nn) = true := by simpa using h
      rw [if_neg (by simpa using h)]
      have r1 : decide (((0 : Nat) + List.length [FV.int .i64 c]) * 8 ≤ roomy) = true := by first | (simp [roomy]; done) | (simp [roomy]; omega)
      have r2 : decide ((0 : Nat) + List.length [FV.int .i64 c] ≤ roomy) = true := by first | (simp [roomy]; done) | (simp [roomy]; omega)
      simp only [this, Bool.not_true, ifB_false, jump_true, J_ref03_Signs_4_0_eq, ew, r1, r2, Bool.and_true, when_true']
      skip
    · have : (toB (putB c) == (s.data.toList.drop i).take nn) = false := by simpa using h
      rw [if_pos (by simpa using h)]
      simp only [this, Bool.not_false, ifB_true]
  by_cases h1 : c ≤ 1114111
  · have a1 : decide (c > 1114111) = false := by simp; omega
    by_cases h2 : 55296 ≤ c
    · have a2 : decide (c ≥ 55296) = true := by simp; omega
      by_cases h3 : c < 57344
      · have a3 : decide (c < 57344) = true := by simp; omega
        rw [if_pos (.inr (.inl ⟨h2, h3⟩))]
        simp only [a1, a2, a3, ifB_false, ifB_true]
      · have a3 : decide (c < 57344) = false := by simp; omega
        have : (1114111 < c ∨ (55296 ≤ c ∧ c < 57344) ∨ toB (putB c) ≠ (s.data.toList.drop i).take nn) ↔ toB (putB c) ≠ (s.data.toList.drop i).take nn := ⟨fun h => by rcases h with h | h | h <;> first | exact h | omega, fun h => .inr (.inr h)⟩
        simp only [a1, a2, a3, ifB_false, ifB_true, this]
        exact tail h1
    · have a2 : decide (c ≥ 55296) = false := by simp; omega
      have : (1114111 < c ∨ (55296 ≤ c ∧ c < 57344) ∨ toB (putB c) ≠ (s.data.toList.drop i).take nn) ↔ toB (putB c) ≠ (s.data.toList.drop i).take nn := ⟨fun h => by rcases h with h | h | h <;> first | exact h | omega, fun h => .inr (.inr h)⟩
      simp only [a1, a2, ifB_false, this]
      exact tail h1
  · have a1 : decide (c > 1114111) = true := by simp; omega
    rw [if_pos (.inl (by omega))]
    simp only [a1, ifB_true]

theorem signs_round0 (K n : Nat) (hK : 5 ≤ K) (hacc : 0 ≤ 8796093022208) (i : Nat) (hi : i < s.data.toList.length) :
    L_ref03_Signs_2_0 Rt K true (n + 1) s i = (match sgn (s.data.toList.drop i) with
      | some (c, k) => L_ref03_Signs_2_1 Rt K true n s ((i + k : Nat) : Int) ([.int .i64 c])
      | none => some (.ret, X_ref03_Signs_2_1 false)) := by
  have hbs := bytes_size s
  rw [L_ref03_Signs_2_0_eq, drop_cons hi]
  have e1 : decide ((i : Int) < (s.size : Int)) = true := by simp; omega
  have e2 : decide ((0 : Int) ≤ (i : Int)) = true := by simp
  simp only [e1, e2, ifB_true, Bool.and_true, when_true', Int.toNat_natCast, byteAt hi]
  have hdr : s.data.toList.drop i = s.data.toList[i] :: s.data.toList.drop (i + 1) := drop_cons hi
  have hlen : (s.data.toList.drop (i + 1)).length + 1 + i = s.size := by rw [List.length_drop]; omega
  generalize s.data.toList[i] = b at *
  have hb := u8_le b
  have e5 : IntKind.wrap .i64 ((b.toNat : Nat) : Int) = (b.toNat : Int) := wrap64 (by omega) (by omega)
  simp only [e5]
  have hN := headN_le b.toNat
  have j7 : (ifB (decide ((b.toNat : Int) ≥ 240)) (jump true (J_ref03_Signs_1_0 Rt K true n s i (b.toNat : Int) 1 (b.toNat : Int) (decide ((b.toNat : Int) < 248)))) (jump true (J_ref03_Signs_1_0 Rt K true n s i (b.toNat : Int) 1 (b.toNat : Int) false))) = J_ref03_Signs_7_0 Rt K true n s i (b.toNat : Int) (headN b.toNat) (headC b.toNat) := by
    unfold headN headC
    have w1 : 240 ≤ b.toNat → IntKind.wrap .i64 ((b.toNat : Int) - 240) = (b.toNat : Int) - 240 := fun _ => wrap64 (by omega) (by omega)
    have w2 : IntKind.wrap .i64 ((b.toNat : Int) - 224) = (b.toNat : Int) - 224 := wrap64 (by omega) (by omega)
    have w3 : IntKind.wrap .i64 ((b.toNat : Int) - 192) = (b.toNat : Int) - 192 := wrap64 (by omega) (by omega)
    by_cases h1 : 240 ≤ b.toNat
    · have a1 : decide ((b.toNat : Int) ≥ 240) = true := by simp; omega
      have a3 : decide ((b.toNat : Int) ≥ 224) = true := by simp; omega
      by_cases h2 : b.toNat < 248
      · have a2 : decide ((b.toNat : Int) < 248) = true := by simp; omega
        simp only [a1, a2, ifB_true, jump_true, J_ref03_Signs_1_0_eq, w1 h1, if_pos (show 240 ≤ b.toNat ∧ b.toNat < 248 from ⟨h1, h2⟩)]
        exact Eq.refl _
      · have a2 : decide ((b.toNat : Int) < 248) = false := by simp; omega
        simp only [a1, a2, a3, ifB_true, ifB_false, jump_true, J_ref03_Signs_1_0_eq, w2, if_neg (show ¬ (240 ≤ b.toNat ∧ b.toNat < 248) by omega), if_pos (show 224 ≤ b.toNat by omega)]
        exact Eq.refl _
    · have a1 : decide ((b.toNat : Int) ≥ 240) = false := by simp; omega
      rw [if_neg (show ¬ (240 ≤ b.toNat ∧ b.toNat < 248) by omega), if_neg (show ¬ (240 ≤ b.toNat ∧ b.toNat < 248) by omega)]
      by_cases h3 : 224 ≤ b.toNat
      · have a3 : decide ((b.toNat : Int) ≥ 224) = true := by simp; omega
        simp only [a1, a3, ifB_true, ifB_false, jump_true, J_ref03_Signs_1_0_eq, w2, if_pos h3]
        exact Eq.refl _
      · have a3 : decide ((b.toNat : Int) ≥ 224) = false := by simp; omega
        by_cases h4 : 192 ≤ b.toNat
        · have a4 : decide ((b.toNat : Int) ≥ 192) = true := by simp; omega
          simp only [a1, a3, a4, ifB_true, ifB_false, jump_true, J_ref03_Signs_1_0_eq, w3, if_neg h3, if_pos h4]
          exact Eq.refl _
        · have a4 : decide ((b.toNat : Int) ≥ 192) = false := by simp; omega
          simp only [a1, a3, a4, ifB_true, ifB_false, jump_true, J_ref03_Signs_1_0_eq, if_neg h3, if_neg h4]
          exact Eq.refl _
  rw [j7, J_ref03_Signs_7_0_eq]
  have ew : IntKind.wrap .i64 ((i : Int) + (headN b.toNat : Int)) = ((i + headN b.toNat : Nat) : Int) := by rw [wrap64 (by omega) (by omega)]; omega
  simp only [sgn]
  by_cases h1 : 248 ≤ b.toNat
  · have a1 : decide ((b.toNat : Int) ≥ 248) = true := by simp; omega
    rw [if_pos (.inl h1)]
    simp only [a1, ifB_true]
  · have a1 : decide ((b.toNat : Int) ≥ 248) = false := by simp; omega
    by_cases h2 : 128 ≤ b.toNat ∧ b.toNat < 192
    · have a2 : decide ((b.toNat : Int) ≥ 128) = true := by simp; omega
      have a3 : decide ((b.toNat : Int) < 192) = true := by simp; omega
      rw [if_pos (.inr (.inl h2))]
      simp only [a1, a2, a3, ifB_true, ifB_false]
    · by_cases h3 : (s.data.toList.drop (i + 1)).length + 1 < headN b.toNat
      · have a4 : decide (((i + headN b.toNat : Nat) : Int) > (s.size : Int)) = true := by simp; omega
        rw [if_pos (.inr (.inr h3))]
        by_cases h4 : 128 ≤ b.toNat
        · have a2 : decide ((b.toNat : Int) ≥ 128) = true := by simp; omega
          have a3 : decide ((b.toNat : Int) < 192) = false := by simp; omega
          simp only [a1, a2, a3, ew, a4, ifB_true, ifB_false]
        · have a2 : decide ((b.toNat : Int) ≥ 128) = false := by simp; omega
          simp only [a1, a2, ew, a4, ifB_true, ifB_false]
      · have a4 : decide (((i + headN b.toNat : Nat) : Int) > (s.size : Int)) = false := by simp; omega
        rw [if_neg (by rintro (h | h | h); exact h1 h; exact h2 h; exact h3 h)]
        have j6 : J_ref03_Signs_6_0 Rt K true n s i (headN b.toNat) (headC b.toNat) = (match (match cont (headN b.toNat - 1) (headC b.toNat) (s.data.toList.drop (i + 1)) with
            | none => none
            | some c => if 1114111 < c ∨ (55296 ≤ c ∧ c < 57344) ∨ toB (putB c) ≠ (b :: s.data.toList.drop (i + 1)).take (headN b.toNat) then none else some (c, headN b.toNat)) with
            | some (c, k) => L_ref03_Signs_2_1 Rt K true n s ((i + k : Nat) : Int) ([.int .i64 c])
            | none => some (.ret, X_ref03_Signs_2_1 false)) := by
          obtain ⟨K', rfl⟩ : ∃ m, K = m + 5 := ⟨K - 5, by omega⟩
          rw [J_ref03_Signs_6_0_eq]
          have hc := headC_le (show b.toNat < 248 by omega)
          have hp : (headC b.toNat + 1) * ((64 ^ (headN b.toNat - 1) : Nat) : Int) ≤ 1099511627776 := by
            have : ((64 ^ (headN b.toNat - 1) : Nat) : Int) ≤ 262144 := by
              have := Nat.pow_le_pow_right (show 0 < 64 by omega) (show headN b.toNat - 1 ≤ 3 by omega)
              omega
            have := Int.mul_le_mul_of_nonneg_left this (show 0 ≤ headC b.toNat + 1 by omega)
            omega
          have := inner0 s hs (K' + 5) n (headN b.toNat - 1) (K' + 5) i (headN b.toNat) 1 (headC b.toNat) (by omega) (by omega) hN.2 (by omega) hc.1 hp
          rw [show ((1 : Nat) : Int) = 1 from rfl] at this
          rw [this]
          cases hct : cont (headN b.toNat - 1) (headC b.toNat) (s.data.toList.drop (i + 1)) with
          | none => simp only []
          | some c =>
            have h0 := cont_nonneg _ _ _ _ hc.1 hct
            simp only []
            rw [signs_last0 s hs (K' + 5) n hacc i (headN b.toNat) c h0 (by omega), hdr]
            split
            · simp only []
            · simp only []
        by_cases h4 : 128 ≤ b.toNat
        · have a2 : decide ((b.toNat : Int) ≥ 128) = true := by simp; omega
          have a3 : decide ((b.toNat : Int) < 192) = false := by simp; omega
          simp only [a1, a2, a3, ew, a4, ifB_true, ifB_false, jump_true]
          exact j6
        · have a2 : decide ((b.toNat : Int) ≥ 128) = false := by simp; omega
          simp only [a1, a2, ew, a4, ifB_true, ifB_false, jump_true]
          exact j6
end
end Go.Ab
