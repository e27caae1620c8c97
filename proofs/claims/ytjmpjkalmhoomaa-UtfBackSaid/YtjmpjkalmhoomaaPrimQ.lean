/- utf.Quote, by hand: a walk over the contracts of strings.Builder (laid by the shelf's tool); what it calls besides is told by the machine. No condition. -/
import Derived.Shelf.Strings.Builder1
import Derived.Shelf.Strings.BuilderF
import Derived.Shelf.Strings.BuilderK
import Derived.Test.YtjmpjkalmhoomaaSQuo0
import Derived.Test.YtjmpjkalmhoomaaLayB
import Derived.WalkKit
import Derived.BigCall
import Derived.Lib.RuneCount
import Derived.Lib.QuoteLoop
namespace Go.Proofs
open Go.Shelf

open Go.RowKit in
theorem Try.Builder_WriteString_k (B b : Nat) (bs : List Value) (s : ByteArray) (w : World) (h : Lib.IsBuilderF 41 5 B b bs w) (hlen : bs.length + s.size ≤ 140737488355328) (hBw : B ≤ w.heap.size) :
    Calls Try.prog 19 #[.pointer (some ⟨b, 0, none⟩), .string s] w fun e w' => e = .returned (.tuple #[.int .i64 s.size, .nilIface]) ∧ (Lib.BuilderAtF 41 5 B b (.pointer (some ⟨b, 0, none⟩)) (bs ++ Lib.strCells s) w' ∧ Below B w w' ∧ Lib.OthersKept 5 (some b) w w') := Any.Builder_WriteString_k Try.lays166 Try.Builder_Extra_166 B b bs s w h hlen hBw
open Go.RowKit in
theorem Try.Builder_String_any_k (B b : Nat) (l : List UInt8) (w : World) (h : Lib.IsBuilderF 41 5 B b (Lib.byteCells l) w) (hBw : B ≤ w.heap.size) :
    Calls Try.prog 21 #[.pointer (some ⟨b, 0, none⟩)] w fun e w' => e = .returned (.string ⟨l.toArray⟩) ∧ (Lib.IsBuilderF 41 5 B b (Lib.byteCells l) w' ∧ Below B w w' ∧ Lib.OthersKept 5 (some b) w w') := Any.Builder_String_any_k Try.lays169 Try.Builder_Extra_169 B b l w h hBw
end Go.Proofs
namespace Go.Ab
noncomputable section
open Go.Proofs Go.RowKit
/-- The signs from a place on, quoted. -/
def qFrom (s : ByteArray) : Nat → Nat → List UInt8
  | 0, _ => []
  | n + 1, pos => if pos < s.size then quoteB (Utf8.decode s pos).1 ++ qFrom s n (pos + (Utf8.decode s pos).2) else []
theorem qFrom_end (s : ByteArray) (n pos : Nat) (h : ¬ pos < s.size) : qFrom s n pos = [] := by
  cases n with
  | zero => rfl
  | succ n => simp [qFrom, h]
def qText (s : ByteArray) : List UInt8 := 34 :: (qFrom s s.size 0 ++ [34])
theorem glob_below {P : Program} {w w' : World} (hG : GlobOK P w (fun b => b < w.heap.size)) (b : Below w.heap.size w w') : GlobOK P w' (fun b => b < w'.heap.size) := hG.mono (fun _ h => Nat.lt_of_lt_of_le h b.size) fun i hi => b.block i hi
theorem call_valid (s : ByteArray) (hs : s.size ≤ 1152921504606846976) (w : World) (hG : GlobOK Try.prog w (fun b => b < w.heap.size)) : Calls Try.prog 13 #[.string s] w fun e w' => e = .returned (.bool (signsL s.data.toList).isSome) ∧ Below w.heap.size w w' := by
  refine (rr_calls tab0_ok (fs := [.str s]) (args := #[.string s]) (valid_ok s hs) hG ⟨.str s, trivial⟩).mono ?_
  rintro e w' ⟨v, rfl, b, S', R⟩
  cases R
  exact ⟨rfl, b⟩
theorem call_quoted (c : Int) (h0 : 0 ≤ c) (w : World) (hG : GlobOK Try.prog w (fun b => b < w.heap.size)) : Calls Try.prog 20 #[.int .i32 c] w fun e w' => e = .returned (.string (qB (quoteB c))) ∧ Below w.heap.size w w' := by
  refine (rr_calls tab0_ok (fs := [.int .i32 c]) (args := #[.int .i32 c]) (quoted_ok c h0) hG ⟨.int .i32 c, trivial⟩).mono ?_
  rintro e w' ⟨v, rfl, b, S', R⟩
  cases R
  exact ⟨rfl, b⟩
theorem qB_cells (l : List UInt8) : Lib.strCells (qB l) = Lib.byteCells l := rfl
theorem qB_size (l : List UInt8) : (qB l).size = l.length := rfl

theorem alloc_le (w : World) (o : Obj) : w.heap.size ≤ (w.alloc o).heap.size := by simp
theorem alloc_lt (w : World) (o : Obj) : w.heap.size < (w.alloc o).heap.size := by simp
theorem below_down {B B' : Nat} {a w : World} (h : B' ≤ B) (k : Below B a w) : Below B' a w := ⟨k.os, k.tape, k.output, k.size, fun i hi => k.block i (Nat.lt_of_lt_of_le hi h)⟩
theorem dec_le (s : ByteArray) (pos : Nat) (h : pos < s.size) : (Utf8.decode s pos).2 ≤ s.size - pos := by
  rw [Lib.decode_at]; exact Lib.decodeN_width_le _ _ _ _ _ (by omega)
/-- What utf.Quote gives. -/
def qAns (s : ByteArray) : Value := if (signsL s.data.toList).isSome then .tuple #[.string (qB (qText s)), .int .i64 0] else .tuple #[.string ⟨#[]⟩, .int .i64 7]
set_option maxHeartbeats 4000000 in
set_option maxRecDepth 1000000 in
theorem quote_walk (s : ByteArray) (w : World) (hs : s.size ≤ 1099511627776) (hG : GlobOK Try.prog w (fun b => b < w.heap.size)) :
    Calls Try.prog 9 #[.string s] w fun e w' => e = .returned (qAns s) ∧ Below w.heap.size w w' := by
  have hsz' : s.size ≤ 1152921504606846976 := by omega
  go_enter Try.func9, Try.ntmps9
  go_wp2_with (go_at_call 13; refine (call_valid s hsz' _ hG).mono ?_)
  rintro e w1 ⟨rfl, b1⟩
  generalize hv : (signsL s.data.toList).isSome = v
  cases v with
  | false =>
    go_wp2
    go_ret2
    exact ⟨by unfold qAns; rw [hv]; rfl, b1⟩
  | true =>
    have hI0 : Lib.IsBuilderF 41 5 w1.heap.size w1.heap.size [] (w1.alloc (.cells #[.pointer none, .slice none 0 0] 41)) := Lib.IsBuilderF.of (Lib.fresh_isBuilder 41 5 w1)
    have hc := Try.Builder_WriteString_k w1.heap.size w1.heap.size [] ⟨#[34]⟩ (w1.alloc (.cells #[.pointer none, .slice none 0 0] 41)) hI0 (by decide) (alloc_le _ _)
    have hl0 := alloc_lt w1 (.cells #[.pointer none, .slice none 0 0] 41)
    have bA : Below w.heap.size w (w1.alloc (.cells #[.pointer none, .slice none 0 0] 41)) := b1.alloc b1.size _
    go_wp2_with (go_at_call 19; refine hc.mono ?_)
    rintro e w2 ⟨rfl, h2, b2, k2⟩
    have hs2 := b2.size
    have hs1 := b1.size
    have bB : Below w.heap.size w w2 := bA.trans (below_down b1.size b2)
    go_wp2
    go_loopw [] (fun wr => ∃ (pos fuel : Nat) (acc : List UInt8), Lib.IsBuilderF 41 5 w1.heap.size w1.heap.size (Lib.byteCells acc) wr ∧ wr.heap[w2.heap.size]? = some (.stringIter s pos) ∧ Below w.heap.size w wr ∧ acc ++ qFrom s fuel pos = 34 :: qFrom s s.size 0 ∧ s.size ≤ pos + fuel ∧ acc.length ≤ 1 + 6 * pos ∧ pos ≤ s.size) (fun wr => s.size - wr.iterPos w2.heap.size)
    case atStart =>
      refine ⟨0, s.size, [34], Lib.IsBuilderF.alloc (Or.inr h2) _, ?_, bB.alloc bB.size _, rfl, by omega, by decide, by omega⟩
      have := World.iter_heap w2 s 0
      simpa using this
    case round =>
      obtain ⟨pos, fuel, acc, hI, hit, hbw, hacc, hfu, hal, hps⟩ := hrel
      have hsz : w2.heap.size < wr.heap.size := (Array.getElem?_eq_some_iff.1 hit).1
      by_cases hp : pos < s.size
      · have hnx : ∀ ty, (Instr.next (.pointer (some ⟨w2.heap.size, 0, none⟩)) true ty).run Try.prog wr = _ := fun ty => Lib.run_next_any_at wr w2.heap.size s pos ty hit hp
        have hwd := Lib.decode_width_pos s pos hp
        have hwl := dec_le s pos hp
        have hI2 := hI.iterAt hit (pos + (Utf8.decode s pos).2)
        have hit2 := Lib.iterAt_heap wr w2.heap.size s pos (pos + (Utf8.decode s pos).2) hit
        have hbw2 := Lib.below_iterAt hbw (k := w2.heap.size) (by omega) s (pos + (Utf8.decode s pos).2)
        have hsz2 : w2.heap.size < (wr.iterAt w2.heap.size s (pos + (Utf8.decode s pos).2)).heap.size := by rw [Lib.iterAt_size]; exact hsz
        obtain ⟨f, rfl⟩ : ∃ f, fuel = f + 1 := ⟨fuel - 1, by omega⟩
        have hq := call_quoted ((Utf8.decode s pos).1 : Int) (Int.natCast_nonneg _) (wr.iterAt w2.heap.size s (pos + (Utf8.decode s pos).2)) (glob_below hG hbw2)
        have hql := quoteB_len ((Utf8.decode s pos).1 : Int)
        go_wp2_with (go_at_call 20; refine hq.mono ?_)
        rintro e w4 ⟨rfl, b4⟩
        have hI4 := builderF_below hI2 b4
        have hit4 : w4.heap[w2.heap.size]? = some (.stringIter s (pos + (Utf8.decode s pos).2)) := (b4.block _ hsz2).trans hit2
        have hs4 := b4.size
        have hbw4 := hbw2.trans (below_down hbw2.size b4)
        have hc4 := Try.Builder_WriteString_k w1.heap.size w1.heap.size _ (qB (quoteB ((Utf8.decode s pos).1 : Int))) w4 hI4 (by rw [Lib.byteCells_length, qB_size]; omega) (by omega)
        go_wp2_with (go_at_call 19; refine hc4.mono ?_)
        rintro e w5 ⟨rfl, h5, b5, k5⟩
        go_wp2
        go_roundw
        case rel =>
          refine ⟨pos + (Utf8.decode s pos).2, f, acc ++ quoteB ((Utf8.decode s pos).1 : Int), ?_, k5.iter hit4 (by omega), hbw4.trans (below_down (by omega) b5), ?_, by omega, by simp; omega, by omega⟩
          · rw [Lib.byteCells_append]; exact Or.inr h5
          · rw [← hacc]; simp [qFrom, hp]
        case measure =>
          simp only [World.iterPos, k5.iter hit4 (by omega), hit]
          omega
      · have hnx : ∀ ty, (Instr.next (.pointer (some ⟨w2.heap.size, 0, none⟩)) true ty).run Try.prog wr = _ := fun ty => Lib.run_next_end_at wr w2.heap.size s pos ty hit hp
        have hc6 := Try.Builder_WriteString_k w1.heap.size w1.heap.size _ ⟨#[34]⟩ wr hI (by rw [Lib.byteCells_length]; have : (⟨#[34]⟩ : ByteArray).size = 1 := rfl; omega) (by omega)
        go_wp2_with (go_at_call 19; refine hc6.mono ?_)
        rintro e w6 ⟨rfl, h6, b6, k6⟩
        have h6' : Lib.IsBuilderF 41 5 w1.heap.size w1.heap.size (Lib.byteCells (acc ++ [34])) w6 := by rw [Lib.byteCells_append]; exact Or.inr h6
        have hs6 := b6.size
        have hc7 := Try.Builder_String_any_k w1.heap.size w1.heap.size (acc ++ [34]) w6 h6' (by omega)
        go_wp2_with (go_at_call 21; refine hc7.mono ?_)
        rintro e w7 ⟨rfl, _, b7, _⟩
        go_wp2
        go_ret2
        rw [qFrom_end s fuel pos hp, List.append_nil] at hacc
        subst hacc
        refine ⟨?_, (hbw.trans (below_down (by omega) b6)).trans (below_down (by omega) b7)⟩
        unfold qAns
        rw [hv]
        rfl
/-- What utf.Quote answers. -/
def quoteP (ts : List TV) : Option Ans := match ts with
  | [.fz (.str s)] => when (Nat.ble s.size 1099511627776) (some (if (signsL s.data.toList).isSome then ([.fz (.str (qB (qText s))), .fz (.int .i64 0)], []) else ([.fz (.str (qB [])), .fz (.int .i64 7)], [])))
  | _ => none
theorem quote_prim : ∀ ts r, quoteP ts = some r → CallOK Try.prog 9 ts r := by
  intro ts r e
  unfold quoteP at e
  split at e
  · rename_i s
    obtain ⟨hg, e⟩ := when_some e
    have hs := Nat.le_of_ble_eq_true hg
    intro W S args Bs hlt hglob hT
    obtain ⟨x, rfl, rfl, R⟩ := repTs_one hT
    cases R
    refine (quote_walk s W hs (hglob.mono hlt fun _ _ => rfl)).mono fun ex W' hp => ?_
    obtain ⟨rfl, b⟩ := hp
    unfold qAns
    have two : ∀ (l : List UInt8) (n : Int), AnsOk W S [.fz (.str s)] [.string s] [] ([.fz (.str (qB l)), .fz (.int .i64 n)], []) (.tuple #[.string (qB l), .int .i64 n]) W' := fun l n => ans_two (fun t ht => by rcases List.mem_singleton.1 ht with rfl; exact ⟨_, rfl⟩) rfl hlt b (.str _) (.int _ _)
    cases hv : (signsL s.data.toList).isSome with
    | true => rw [hv] at e; cases e; exact two _ _
    | false => rw [hv] at e; cases e; exact two [] 7
  · cases e
def A_quote : AFunc := ⟨1, [], .skip, some quoteP⟩
end
end Go.Ab
