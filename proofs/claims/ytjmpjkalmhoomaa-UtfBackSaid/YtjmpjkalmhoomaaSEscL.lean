/- Signs written by their numbers are read as these signs. -/
import Derived.Test.YtjmpjkalmhoomaaSPut
import Derived.Test.YtjmpjkalmhoomaaSUnq3
namespace Go.Ab
set_option linter.unusedVariables false
set_option linter.unusedSimpArgs false
def hexUS : ByteArray := ⟨#[48, 49, 50, 51, 52, 53, 54, 55, 56, 57, 65, 66, 67, 68, 69, 70]⟩
def hexU (k : Int) : UInt8 := Array.getD hexUS.data k.toNat 0
def hex4 (v : Int) : List UInt8 := [hexU (v / 4096 % 16), hexU (v / 256 % 16), hexU (v / 16 % 16), hexU (v % 16)]
def escB (c : Int) : List UInt8 := if c < 65536 then 92 :: 117 :: hex4 c else 92 :: 117 :: (hex4 (55296 + (c - 65536) / 1024) ++ (92 :: 117 :: hex4 (56320 + (c - 65536) % 1024)))
theorem hexU_V {k : Int} (h0 : 0 ≤ k) (h1 : k < 16) : hexV (hexU k) = k := by
  have h : ∀ n : Fin 16, hexV (hexU (n.val : Int)) = (n.val : Int) := by decide +kernel
  have := h ⟨k.toNat, by omega⟩
  simpa only [Int.toNat_of_nonneg h0] using this
theorem four_hex {v : Int} (h0 : 0 ≤ v) (h1 : v < 65536) (r : List UInt8) : fourL (hex4 v ++ r) = some v := by
  have a1 := hexU_V (k := v / 4096 % 16) (by omega) (by omega)
  have a2 := hexU_V (k := v / 256 % 16) (by omega) (by omega)
  have a3 := hexU_V (k := v / 16 % 16) (by omega) (by omega)
  have a4 := hexU_V (k := v % 16) (by omega) (by omega)
  unfold fourL hex4
  rw [if_neg (by simp)]
  show hexN [hexU (v / 4096 % 16), hexU (v / 256 % 16), hexU (v / 16 % 16), hexU (v % 16)] 0 = some v
  simp only [hexN]
  rw [a1, a2, a3, a4, if_neg (by omega), if_neg (by omega), if_neg (by omega), if_neg (by omega)]
  simp only [Option.some.injEq]
  omega
theorem hex4_len (v : Int) : (hex4 v).length = 4 := rfl
theorem escB_len (c : Int) : 1 ≤ (escB c).length ∧ (escB c).length ≤ 12 := by
  unfold escB
  split
  · simp [hex4_len]
  · simp [hex4_len]
theorem all_esc1 {c : Int} (h0 : 0 ≤ c) (h1 : c ≤ 1114111) (h2 : ¬ (55296 ≤ c ∧ c < 57344)) (n : Nat) (r out : List UInt8) : allN (n + 1) (escB c ++ r) out false = allN n r (out ++ toB (putB c)) false := by
  have he : encL c = toB (putB c) := enc_put h0 h1 h2
  have key : ∀ q : List UInt8, pairL q out false = some (r, out ++ toB (putB c), false) → allN (n + 1) (92 :: 117 :: q) out false = allN n r (out ++ toB (putB c)) false := by
    intro q hq
    simp only [allN]
    rw [if_neg (by decide), if_pos trivial]
    have : escL (117 :: q) out false = pairL q out false := by unfold escL; simp only [if_true]
    rw [this, hq]
  unfold escB
  by_cases g : c < 65536
  · rw [if_pos g, List.cons_append, List.cons_append]
    refine key _ ?_
    unfold pairL
    rw [four_hex h0 g]
    simp only
    rw [if_pos (by omega), he, List.drop_left' (hex4_len c)]
  · rw [if_neg g, List.cons_append, List.cons_append, List.append_assoc]
    refine key _ ?_
    unfold pairL
    rw [four_hex (by omega) (by omega)]
    simp only
    have d4 : List.drop 4 (hex4 (55296 + (c - 65536) / 1024) ++ (92 :: 117 :: hex4 (56320 + (c - 65536) % 1024) ++ r)) = 92 :: 117 :: (hex4 (56320 + (c - 65536) % 1024) ++ r) := by
      rw [List.drop_left' (hex4_len _)]; rfl
    have d6 : List.drop 6 (hex4 (55296 + (c - 65536) / 1024) ++ (92 :: 117 :: hex4 (56320 + (c - 65536) % 1024) ++ r)) = hex4 (56320 + (c - 65536) % 1024) ++ r := by
      rw [show (6 : Nat) = 4 + 2 from rfl, ← List.drop_drop, d4]; rfl
    have d10 : List.drop 10 (hex4 (55296 + (c - 65536) / 1024) ++ (92 :: 117 :: hex4 (56320 + (c - 65536) % 1024) ++ r)) = r := by
      rw [show (10 : Nat) = 6 + 4 from rfl, ← List.drop_drop, d6, List.drop_left' (hex4_len _)]
    rw [d4, d6, d10, if_neg (by omega), if_neg (by
      rintro (h | h)
      · omega
      · cases h), four_hex (by omega) (by omega)]
    simp only
    rw [if_neg (by omega), show 65536 + (55296 + (c - 65536) / 1024 - 55296) * 1024 + (56320 + (c - 65536) % 1024 - 56320) = c by omega, he]
theorem all_esc : ∀ (l : List Int), (∀ c ∈ l, 0 ≤ c ∧ c ≤ 1114111 ∧ ¬ (55296 ≤ c ∧ c < 57344)) → ∀ (n : Nat) (out : List UInt8), l.length ≤ n → allN n (l.flatMap escB) out false = some (out ++ bytesOf' l, false)
  | [], _, n, out, _ => by cases n <;> simp [allN, bytesOf', toB]
  | c :: l, h, n, out, hn => by
    obtain ⟨n, rfl⟩ : ∃ q, n = q + 1 := ⟨n - 1, by simp at hn; omega⟩
    obtain ⟨h0, h1, h2⟩ := h c (List.mem_cons_self ..)
    rw [List.flatMap_cons, all_esc1 h0 h1 h2, all_esc l (fun d hd => h d (List.mem_cons_of_mem _ hd)) n _ (by simp at hn; omega), bytes_cons, List.append_assoc]
theorem esc_len (l : List Int) : l.length ≤ (l.flatMap escB).length ∧ (l.flatMap escB).length ≤ 12 * l.length := by
  induction l with
  | nil => simp
  | cons c l ih => have := escB_len c; simp only [List.flatMap_cons, List.length_append, List.length_cons]; omega
theorem unq_esc {l : List Int} (h : ∀ c ∈ l, 0 ≤ c ∧ c ≤ 1114111 ∧ ¬ (55296 ≤ c ∧ c < 57344)) : unqL (34 :: (l.flatMap escB ++ [34])) = (bytesOf' l, 0) := by
  rw [unqL_eq, if_neg (by simp), all_esc l h _ _ (esc_len l).1]
  simp only [List.nil_append]
  rw [signs_put h, if_neg (by simp)]
theorem hex_ok {a : Int} (h0 : 0 ≤ a) (h1 : a < 65536) : Rt0 N_law03_hex [.fz (.int .i64 a)] = some ([.fz (.str (qB (hex4 a)))], []) := by
  refine rt_call0 A_law03_hex rfl rfl 0 ?_
  have t1 : Int.tdiv a 4096 = a / 4096 := Int.tdiv_eq_ediv_of_nonneg h0
  have t2 : Int.tdiv a 256 = a / 256 := Int.tdiv_eq_ediv_of_nonneg h0
  have t3 : Int.tdiv a 16 = a / 16 := Int.tdiv_eq_ediv_of_nonneg h0
  have w1 : IntKind.wrap .i64 (a / 4096) = a / 4096 := by rw [wrap64 (by omega) (by omega)]
  have w2 : IntKind.wrap .i64 (a / 256) = a / 256 := by rw [wrap64 (by omega) (by omega)]
  have w3 : IntKind.wrap .i64 (a / 16) = a / 16 := by rw [wrap64 (by omega) (by omega)]
  have m1 : Int.tmod (a / 4096) 16 = a / 4096 % 16 := Int.tmod_eq_emod_of_nonneg (by omega)
  have m2 : Int.tmod (a / 256) 16 = a / 256 % 16 := Int.tmod_eq_emod_of_nonneg (by omega)
  have m3 : Int.tmod (a / 16) 16 = a / 16 % 16 := Int.tmod_eq_emod_of_nonneg (by omega)
  have m4 : Int.tmod a 16 = a % 16 := Int.tmod_eq_emod_of_nonneg h0
  have z : ∀ k : Int, 0 ≤ k → k < 16 → (decide (0 ≤ k) && decide (k < (ByteArray.size (⟨#[48, 49, 50, 51, 52, 53, 54, 55, 56, 57, 65, 66, 67, 68, 69, 70]⟩ : ByteArray) : Int))) = true := by
    intro k k0 k1
    rw [Bool.and_eq_true, decide_eq_true_eq, decide_eq_true_eq]
    exact ⟨k0, k1⟩
  rw [E_law03_hex, t1, t2, t3, w1, w2, w3, m1, m2, m3, m4, z _ (by omega) (by omega), z _ (by omega) (by omega), z _ (by omega) (by omega), z _ (by omega) (by omega), when_true', when_true', when_true', when_true']
  have e : ∀ k : Int, Array.getD (⟨#[48, 49, 50, 51, 52, 53, 54, 55, 56, 57, 65, 66, 67, 68, 69, 70]⟩ : ByteArray).data (Int.toNat k) 0 = hexU k := fun _ => rfl
  rw [e, e, e, e]
  have e2 : [FV.int .u8 (((hexU (a / 4096 % 16)).toNat : Nat) : Int), FV.int .u8 (((hexU (a / 256 % 16)).toNat : Nat) : Int), FV.int .u8 (((hexU (a / 16 % 16)).toNat : Nat) : Int), FV.int .u8 (((hexU (a % 16)).toNat : Nat) : Int)] = cells (hex4 a) := rfl
  rw [e2, cells_all, when_true', cells_back]
end Go.Ab
