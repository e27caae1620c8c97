/- Whether a text begins with a sign, as the program asks, is what the reference reads. -/
import Derived.Test.YtgljpoefbphhdaaDoorSUtf1
namespace Go.Ab
set_option linter.unusedVariables false
set_option linter.unusedSimpArgs false
set_option linter.unusedSectionVars false

def contB (d : UInt8) : Bool := decide (128 ≤ d.toNat ∧ d.toNat ≤ 191)
def tailB : List UInt8 → Nat → Nat → Nat → Bool
  | _ :: b :: r, n, lo, hi => decide (lo ≤ b.toNat ∧ b.toNat ≤ hi) && (decide (n ≤ r.length + 1) && (r.take (n - 1)).all contB)
  | _, _, _, _ => false

def sizeB : List UInt8 → Nat
  | [] => 0
  | c :: r =>
    if c.toNat < 128 then 1
    else if decide (194 ≤ c.toNat) && (decide (c.toNat ≤ 223) && tailB (c :: r) 1 128 191) then 2
    else if (decide (c.toNat = 224) && tailB (c :: r) 2 160 191) || ((decide (225 ≤ c.toNat) && (decide (c.toNat ≤ 239) && (!decide (c.toNat = 237) && tailB (c :: r) 2 128 191))) || (decide (c.toNat = 237) && tailB (c :: r) 2 128 159)) then 3
    else if (decide (c.toNat = 240) && tailB (c :: r) 3 144 191) || ((decide (241 ≤ c.toNat) && (decide (c.toNat ≤ 243) && tailB (c :: r) 3 128 191)) || (decide (c.toNat = 244) && tailB (c :: r) 3 128 143)) then 4
    else 0

theorem u8_eq {e : Int} (h0 : 0 ≤ e) (h1 : e ≤ 255) (c : UInt8) : UInt8.ofNat e.toNat = c ↔ e = (c.toNat : Int) := by
  have hc := c.toNat_lt
  constructor
  · intro h
    have := congrArg UInt8.toNat h
    rw [UInt8.toNat_ofNat_of_lt' (show e.toNat < 256 by omega)] at this
    omega
  · intro h
    apply UInt8.toNat_inj.1
    rw [UInt8.toNat_ofNat_of_lt' (show e.toNat < 256 by omega)]
    omega

def badV (c : UInt8) (r : List UInt8) (v : Int) : Prop := 1114111 < v ∨ (55296 ≤ v ∧ v < 57344) ∨ toB (putB v) ≠ (c :: r).take (headN c.toNat)

section
variable {c : UInt8} {r : List UInt8} (hb : ¬ (248 ≤ c.toNat ∨ (128 ≤ c.toNat ∧ c.toNat < 192) ∨ r.length + 1 < headN c.toNat))
include hb
theorem sgn_bad {v : Int} (hc : cont (headN c.toNat - 1) (headC c.toNat) r = some v) (h : badV c r v) : sgn (c :: r) = none := by
  simp only [sgn]
  rw [if_neg hb, hc]
  unfold badV at h
  simp only []
  rw [if_pos h]
theorem sgn_good {v : Int} (hc : cont (headN c.toNat - 1) (headC c.toNat) r = some v) (h : ¬ badV c r v) : sgn (c :: r) = some (v, headN c.toNat) := by
  simp only [sgn]
  rw [if_neg hb, hc]
  unfold badV at h
  simp only []
  rw [if_neg h]
theorem sgn_nocont (hc : cont (headN c.toNat - 1) (headC c.toNat) r = none) : sgn (c :: r) = none := by
  simp only [sgn]
  rw [if_neg hb, hc]
end
theorem sgn_short {c : UInt8} {r : List UInt8} (hb : 248 ≤ c.toNat ∨ (128 ≤ c.toNat ∧ c.toNat < 192) ∨ r.length + 1 < headN c.toNat) : sgn (c :: r) = none := by
  simp only [sgn]
  rw [if_pos hb]

theorem size_sgn (c : UInt8) (r : List UInt8) : sizeB (c :: r) = (match sgn (c :: r) with | some p => p.2 | none => 0) := by
  have hc := u8_le c
  by_cases h1 : c.toNat < 128
  · have hN : headN c.toNat = 1 := by unfold headN; rw [if_neg (by omega), if_neg (by omega), if_neg (by omega)]
    have hC : headC c.toNat = c.toNat := by unfold headC; rw [if_neg (by omega), if_neg (by omega), if_neg (by omega)]
    have hp : putB (c.toNat : Int) = [(c.toNat : Int)] := by unfold putB; rw [if_pos (by omega)]
    have he : toB [(c.toNat : Int)] = [c] := by simp [toB]
    have hs := sgn_good (c := c) (r := r) (v := (c.toNat : Int)) (by rw [hN]; omega) (by rw [hN, hC]; rfl) (by unfold badV; rw [hN, hp, he]; simp; omega)
    rw [hs, hN]
    simp [sizeB, h1]
  by_cases h2 : c.toNat < 192
  · rw [sgn_short (.inr (.inl ⟨by omega, h2⟩))]
    have e1 : ¬ 194 ≤ c.toNat := by omega
    have e2 : ¬ c.toNat = 224 := by omega
    have e3 : ¬ 225 ≤ c.toNat := by omega
    have e4 : ¬ c.toNat = 237 := by omega
    have e5 : ¬ c.toNat = 240 := by omega
    have e6 : ¬ 241 ≤ c.toNat := by omega
    have e7 : ¬ c.toNat = 244 := by omega
    simp [sizeB, h1, e1, e2, e3, e4, e5, e6, e7]
  by_cases h3 : c.toNat < 224
  · have hN : headN c.toNat = 2 := by unfold headN; rw [if_neg (by omega), if_neg (by omega), if_pos (by omega)]
    have hC : headC c.toNat = (c.toNat : Int) - 192 := by unfold headC; rw [if_neg (by omega), if_neg (by omega), if_pos (by omega)]
    have e2 : ¬ c.toNat = 224 := by omega
    have e3 : ¬ 225 ≤ c.toNat := by omega
    have e4 : ¬ c.toNat = 237 := by omega
    have e5 : ¬ c.toNat = 240 := by omega
    have e6 : ¬ 241 ≤ c.toNat := by omega
    have e7 : ¬ c.toNat = 244 := by omega
    have e8 : c.toNat ≤ 223 := by omega
    match r with
    | [] =>
      rw [sgn_short (.inr (.inr (by rw [hN]; simp)))]
      simp [sizeB, tailB, h1]
    | d :: r =>
      have hd := u8_le d
      have hb : ¬ (248 ≤ c.toNat ∨ (128 ≤ c.toNat ∧ c.toNat < 192) ∨ (d :: r).length + 1 < headN c.toNat) := by rw [hN]; simp only [List.length_cons]; omega
      by_cases hcd : 128 ≤ d.toNat ∧ d.toNat ≤ 191
      · obtain ⟨v, hv⟩ : ∃ v, v = 64 * ((c.toNat : Int) - 192) + (d.toNat : Int) - 128 := ⟨_, rfl⟩
        have hct : cont (headN c.toNat - 1) (headC c.toNat) (d :: r) = some v := by rw [hN, hC, hv]; simp only [cont, if_pos hcd]
        by_cases hlow : 194 ≤ c.toNat
        · have hp : putB v = [192 + v / 64, 128 + v % 64] := by unfold putB; rw [if_neg (by omega), if_pos (by omega)]
          have q1 : UInt8.ofNat (192 + v / 64).toNat = c := (u8_eq (by omega) (by omega) c).2 (by omega)
          have q2 : UInt8.ofNat (128 + v % 64).toNat = d := (u8_eq (by omega) (by omega) d).2 (by omega)
          have he : toB (putB v) = [c, d] := by rw [hp]; simp [toB, q1, q2]
          rw [sgn_good hb hct (by unfold badV; rw [hN, he]; simp; omega), hN]
          simp [sizeB, tailB, h1, hcd, hlow, e8]
        · have hp : putB v = [v] := by unfold putB; rw [if_pos (by omega)]
          rw [sgn_bad hb hct (.inr (.inr (by rw [hN, hp]; simp [toB])))]
          simp [sizeB, tailB, h1, hlow, e2, e3, e4, e5, e6, e7]
      · rw [sgn_nocont hb (by rw [hN, hC]; simp only [cont, if_neg hcd])]
        simp [sizeB, tailB, h1, hcd, e2, e3, e4, e5, e6, e7]
  by_cases h4 : c.toNat < 240
  · have hN : headN c.toNat = 3 := by unfold headN; rw [if_neg (by omega), if_pos (by omega)]
    have hC : headC c.toNat = (c.toNat : Int) - 224 := by unfold headC; rw [if_neg (by omega), if_pos (by omega)]
    have e5 : ¬ c.toNat = 240 := by omega
    have e6 : ¬ 241 ≤ c.toNat := by omega
    have e7 : ¬ c.toNat = 244 := by omega
    have e8 : ¬ c.toNat ≤ 223 := by omega
    have e9 : c.toNat ≤ 239 := by omega
    match r with
    | [] =>
      rw [sgn_short (.inr (.inr (by rw [hN]; simp)))]
      simp [sizeB, tailB, h1]
    | [d] =>
      rw [sgn_short (.inr (.inr (by rw [hN]; simp)))]
      simp [sizeB, tailB, h1, e8]
    | d :: e :: r =>
      have hd := u8_le d
      have he0 := u8_le e
      have hb : ¬ (248 ≤ c.toNat ∨ (128 ≤ c.toNat ∧ c.toNat < 192) ∨ (d :: e :: r).length + 1 < headN c.toNat) := by rw [hN]; simp only [List.length_cons]; omega
      by_cases hcd : 128 ≤ d.toNat ∧ d.toNat ≤ 191
      · by_cases hce : 128 ≤ e.toNat ∧ e.toNat ≤ 191
        · obtain ⟨v, hv⟩ : ∃ v, v = 64 * (64 * ((c.toNat : Int) - 224) + (d.toNat : Int) - 128) + (e.toNat : Int) - 128 := ⟨_, rfl⟩
          have hct : cont (headN c.toNat - 1) (headC c.toNat) (d :: e :: r) = some v := by rw [hN, hC, hv]; simp only [cont, if_pos hcd, if_pos hce]
          have hce' : contB e = true := by simp [contB, hce]
          by_cases hlow : 2048 ≤ v
          · have hp : putB v = [224 + v / 4096, 128 + v / 64 % 64, 128 + v % 64] := by unfold putB; rw [if_neg (by omega), if_neg (by omega), if_pos (by omega)]
            have q1 : UInt8.ofNat (224 + v / 4096).toNat = c := (u8_eq (by omega) (by omega) c).2 (by omega)
            have q2 : UInt8.ofNat (128 + v / 64 % 64).toNat = d := (u8_eq (by omega) (by omega) d).2 (by omega)
            have q3 : UInt8.ofNat (128 + v % 64).toNat = e := (u8_eq (by omega) (by omega) e).2 (by omega)
            have he : toB (putB v) = [c, d, e] := by rw [hp]; simp [toB, q1, q2, q3]
            by_cases hsur : 55296 ≤ v ∧ v < 57344
            · have c1 : c.toNat = 237 := by omega
              have c2 : ¬ d.toNat ≤ 159 := by omega
              rw [sgn_bad hb hct (.inr (.inl hsur))]
              simp [sizeB, tailB, c1, c2]
            · rw [sgn_good hb hct (by unfold badV; rw [hN, he]; simp; omega), hN]
              by_cases c1 : c.toNat = 224
              · have : 160 ≤ d.toNat := by omega
                simp [sizeB, tailB, c1, this, hcd, hce']
              · by_cases c2 : c.toNat = 237
                · have : d.toNat ≤ 159 := by omega
                  simp [sizeB, tailB, c2, this, hcd, hce']
                · have : 225 ≤ c.toNat := by omega
                  simp [sizeB, tailB, h1, e8, e9, c1, c2, this, hcd, hce']
          · have c1 : c.toNat = 224 := by omega
            have c2 : ¬ 160 ≤ d.toNat := by omega
            have hl : (toB (putB v)).length ≤ 2 := by
              unfold putB
              by_cases v1 : v < 128
              · rw [if_pos v1]; simp [toB]
              · rw [if_neg v1, if_pos (by omega)]; simp [toB]
            rw [sgn_bad hb hct (.inr (.inr (by rw [hN]; intro h; rw [h] at hl; simp at hl)))]
            simp [sizeB, tailB, c1, c2]
        · have hce' : contB e = false := by simp [contB]; omega
          rw [sgn_nocont hb (by rw [hN, hC]; simp only [cont, if_pos hcd, if_neg hce])]
          simp [sizeB, tailB, h1, hce', e5, e6, e7, e8]
      · rw [sgn_nocont hb (by rw [hN, hC]; simp only [cont, if_neg hcd])]
        have a1 : ¬ (160 ≤ d.toNat ∧ d.toNat ≤ 191) := by omega
        have a2 : ¬ (128 ≤ d.toNat ∧ d.toNat ≤ 159) := by omega
        simp [sizeB, tailB, h1, hcd, a1, a2, e5, e6, e7]
  by_cases h5 : c.toNat < 248
  · have hN : headN c.toNat = 4 := by unfold headN; rw [if_pos (by omega)]
    have hC : headC c.toNat = (c.toNat : Int) - 240 := by unfold headC; rw [if_pos (by omega)]
    have e2 : ¬ c.toNat = 224 := by omega
    have e4 : ¬ c.toNat = 237 := by omega
    have e8 : ¬ c.toNat ≤ 223 := by omega
    have e9 : ¬ c.toNat ≤ 239 := by omega
    match r with
    | [] =>
      rw [sgn_short (.inr (.inr (by rw [hN]; simp)))]
      simp [sizeB, tailB, h1]
    | [d] =>
      rw [sgn_short (.inr (.inr (by rw [hN]; simp)))]
      simp [sizeB, tailB, h1, e8, e9, e2, e4]
    | [d, e] =>
      rw [sgn_short (.inr (.inr (by rw [hN]; simp)))]
      simp [sizeB, tailB, h1, e8, e9, e2, e4]
    | d :: e :: f :: r =>
      have hd := u8_le d
      have he0 := u8_le e
      have hf0 := u8_le f
      have hb : ¬ (248 ≤ c.toNat ∨ (128 ≤ c.toNat ∧ c.toNat < 192) ∨ (d :: e :: f :: r).length + 1 < headN c.toNat) := by rw [hN]; simp only [List.length_cons]; omega
      by_cases hcd : 128 ≤ d.toNat ∧ d.toNat ≤ 191
      · by_cases hce : 128 ≤ e.toNat ∧ e.toNat ≤ 191
        · have hce' : contB e = true := by simp [contB, hce]
          by_cases hcf : 128 ≤ f.toNat ∧ f.toNat ≤ 191
          · have hcf' : contB f = true := by simp [contB, hcf]
            obtain ⟨v, hv⟩ : ∃ v, v = 64 * (64 * (64 * ((c.toNat : Int) - 240) + (d.toNat : Int) - 128) + (e.toNat : Int) - 128) + (f.toNat : Int) - 128 := ⟨_, rfl⟩
            have hct : cont (headN c.toNat - 1) (headC c.toNat) (d :: e :: f :: r) = some v := by rw [hN, hC, hv]; simp only [cont, if_pos hcd, if_pos hce, if_pos hcf]
            by_cases hlow : 65536 ≤ v
            · have hp : putB v = [240 + v / 262144, 128 + v / 4096 % 64, 128 + v / 64 % 64, 128 + v % 64] := by unfold putB; rw [if_neg (by omega), if_neg (by omega), if_neg (by omega)]
              have q1 : UInt8.ofNat (240 + v / 262144).toNat = c := (u8_eq (by omega) (by omega) c).2 (by omega)
              have q2 : UInt8.ofNat (128 + v / 4096 % 64).toNat = d := (u8_eq (by omega) (by omega) d).2 (by omega)
              have q3 : UInt8.ofNat (128 + v / 64 % 64).toNat = e := (u8_eq (by omega) (by omega) e).2 (by omega)
              have q4 : UInt8.ofNat (128 + v % 64).toNat = f := (u8_eq (by omega) (by omega) f).2 (by omega)
              have he : toB (putB v) = [c, d, e, f] := by rw [hp]; simp [toB, q1, q2, q3, q4]
              by_cases hbig : 1114111 < v
              · rw [sgn_bad hb hct (.inl hbig)]
                have c0 : ¬ c.toNat = 240 := by omega
                by_cases c1 : c.toNat = 244
                · have c2 : ¬ d.toNat ≤ 143 := by omega
                  simp [sizeB, tailB, c1, c2]
                · have c2 : ¬ c.toNat ≤ 243 := by omega
                  simp [sizeB, tailB, h1, e2, e4, e8, e9, c0, c1, c2]
              · rw [sgn_good hb hct (by unfold badV; rw [hN, he]; simp; omega), hN]
                by_cases c1 : c.toNat = 240
                · have : 144 ≤ d.toNat := by omega
                  simp [sizeB, tailB, c1, this, hcd, hce', hcf']
                · by_cases c2 : c.toNat = 244
                  · have : d.toNat ≤ 143 := by omega
                    simp [sizeB, tailB, c2, this, hcd, hce', hcf']
                  · have a1 : 241 ≤ c.toNat := by omega
                    have a2 : c.toNat ≤ 243 := by omega
                    simp [sizeB, tailB, h1, e2, e4, e8, e9, c1, c2, a1, a2, hcd, hce', hcf']
            · have c1 : c.toNat = 240 := by omega
              have c2 : ¬ 144 ≤ d.toNat := by omega
              have hl : (toB (putB v)).length ≤ 3 := by
                unfold putB
                by_cases v1 : v < 128
                · rw [if_pos v1]; simp [toB]
                · by_cases v2 : v < 2048
                  · rw [if_neg v1, if_pos v2]; simp [toB]
                  · rw [if_neg v1, if_neg v2, if_pos (by omega)]; simp [toB]
              rw [sgn_bad hb hct (.inr (.inr (by rw [hN]; intro h; rw [h] at hl; simp at hl)))]
              simp [sizeB, tailB, c1, c2]
          · have hcf' : contB f = false := by simp [contB]; omega
            rw [sgn_nocont hb (by rw [hN, hC]; simp only [cont, if_pos hcd, if_pos hce, if_neg hcf])]
            simp [sizeB, tailB, h1, hcf', e2, e4, e8, e9]
        · have hce' : contB e = false := by simp [contB]; omega
          rw [sgn_nocont hb (by rw [hN, hC]; simp only [cont, if_pos hcd, if_neg hce])]
          simp [sizeB, tailB, h1, hce', e2, e4, e8, e9]
      · rw [sgn_nocont hb (by rw [hN, hC]; simp only [cont, if_neg hcd])]
        have a1 : ¬ (144 ≤ d.toNat ∧ d.toNat ≤ 191) := by omega
        have a2 : ¬ (128 ≤ d.toNat ∧ d.toNat ≤ 143) := by omega
        simp [sizeB, tailB, h1, hcd, a1, a2, e2, e4, e8, e9]
  · rw [sgn_short (.inl (by omega))]
    have e1 : ¬ c.toNat ≤ 223 := by omega
    have e2 : ¬ c.toNat = 224 := by omega
    have e3 : ¬ c.toNat ≤ 239 := by omega
    have e4 : ¬ c.toNat = 237 := by omega
    have e5 : ¬ c.toNat = 240 := by omega
    have e6 : ¬ c.toNat ≤ 243 := by omega
    have e7 : ¬ c.toNat = 244 := by omega
    simp [sizeB, h1, e1, e2, e3, e4, e5, e6, e7]
end Go.Ab
