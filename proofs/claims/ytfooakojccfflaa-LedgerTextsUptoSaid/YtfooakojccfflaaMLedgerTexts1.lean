/- The row LedgerTexts, part 1 of 6: texts written for this work, merged by a program of the session. No condition. -/
import Derived.Orders
import Derived.Deep.AppendSrc
import Derived.RowKit3
import Derived.Below
import Derived.Laws.Small
import Derived.Laws.Pointers
import Derived.Laws.IdiomStrings
import Derived.Deep.Upon
import Derived.Laws.MakeOwn
import Derived.Laws.Tables
import Derived.Laws.BytesString
set_option linter.unusedVariables false
set_option linter.unusedSimpArgs false
set_option linter.unusedSectionVars false
section
namespace Go.Ab
inductive FV where
  | int (k : IntKind) (n : Int)
  | bool (b : Bool)
  | str (s : ByteArray)
  | sl (es : List FV)
  | ag (cs : List FV)
  | pt (n : Nat) (agg : Bool) (e : FV) (off : Nat)
  | nilp
  | fn (f : Nat) (caps : List FV)
  deriving Inhabited
namespace FV
def isInt (k : IntKind) : FV → Bool | .int k' _ => k' == k | _ => false
def isNum : FV → Bool | .int _ _ => true | _ => false
def toInt : FV → Int | .int _ n => n | _ => 0
def isBool : FV → Bool | .bool _ => true | _ => false
def toBool : FV → Bool | .bool b => b | _ => false
def isStr : FV → Bool | .str _ => true | _ => false
@[reducible] def toStr : FV → ByteArray | .str s => s | _ => ByteArray.empty
def isSl : FV → Bool | .sl _ => true | _ => false
def toSl : FV → List FV | .sl es => es | _ => []
def isAg (n : Nat) : FV → Bool | .ag cs => cs.length == n | _ => false
def toAg : FV → List FV | .ag cs => cs | _ => []
def isPt : FV → Bool | .pt _ _ _ _ => true | _ => false
def ptN : FV → Nat | .pt n _ _ _ => n | _ => 0
def ptAgg : FV → Bool | .pt _ a _ _ => a | _ => false
def ptE : FV → FV | .pt _ _ e _ => e | _ => .nilp
def ptOff : FV → Nat | .pt _ _ _ o => o | _ => 0
def isNil : FV → Bool | .nilp => true | _ => false
def isFn : FV → Bool | .fn _ _ => true | _ => false
def fnN : FV → Nat | .fn f _ => f | _ => 0
def fnC : FV → List FV | .fn _ cs => cs | _ => []
def fits (n : Nat) (agg : Bool) (e : FV) : Bool := match agg with | true => e.isAg n | false => n == 1 && !(match e with | .ag _ => true | _ => false)
def cell (e : FV) (i : Nat) : FV := match e with | .ag cs => cs.getD i .nilp | _ => .nilp
def cells : FV → List FV | .ag cs => cs | v => [v]
end FV
inductive LV where
  | fz (v : FV)
  | nils
  | rw (key : Nat)
  | loc (key off len : Nat)
  | ptr (key i off : Nat)
  | ag (cs : List LV)
  | tup (vs : List LV)
  | clo (f : Nat) (caps : List LV)
  deriving Inhabited
namespace LV
def isInt (k : IntKind) : LV → Bool | .fz v => v.isInt k | _ => false
def isNum : LV → Bool | .fz v => v.isNum | _ => false
def toInt : LV → Int | .fz v => v.toInt | _ => 0
def isBool : LV → Bool | .fz v => v.isBool | _ => false
def toBool : LV → Bool | .fz v => v.toBool | _ => false
def isStr : LV → Bool | .fz v => v.isStr | _ => false
@[reducible] def toStr : LV → ByteArray | .fz v => v.toStr | _ => ByteArray.empty
def isFz : LV → Bool | .fz _ => true | _ => false
def toFz : LV → FV | .fz v => v | _ => .nilp
end LV
inductive Blk where
  | row (sz : Nat) (agg : Bool) (xs : List FV)
  | ice (sz : Nat) (agg : Bool) (xs : List FV)
  | var (n : Nat) (agg : Bool) (v : LV)
  | itr (s : ByteArray) (pos : Nat)
  | icv (n : Nat) (agg : Bool) (e : FV)
  | dead
  deriving Inhabited
section assoc
variable {α : Type}
def aget (k : Nat) : List (Nat × α) → Option α
  | [] => none
  | (j, v) :: r => bif j == k then some v else aget k r
def aset (k : Nat) (v : α) : List (Nat × α) → List (Nat × α)
  | [] => [(k, v)]
  | (j, u) :: r => bif j == k then (k, v) :: r else bif Nat.blt k j then (k, v) :: (j, u) :: r else (j, u) :: aset k v r
end assoc
structure St where
  env : List (Nat × LV)
  heap : List (Nat × Blk)
  deriving Inhabited
def St.put (st : St) (d : Nat) (v : LV) : St := { st with env := aset d v st.env }
def St.set (st : St) (k : Nat) (b : Blk) : St := { st with heap := aset k b st.heap }
inductive Opnd where
  | t (n : Nat)
  | c (v : LV)
  deriving Inhabited
inductive TV where
  | fz (v : FV)
  | uq (sz : Nat) (agg : Bool) (xs : List FV)
  | em
  | pv (n : Nat) (agg : Bool) (v : LV)
  deriving Inhabited
def TV.lends : TV → Bool | .fz _ => true | .pv _ _ _ => true | _ => false
def TV.toF : TV → FV | .fz v => v | _ => .nilp
def TV.isF : TV → Bool | .fz _ => true | _ => false
inductive Mode where
  | fz
  | uq (sz : Nat) (agg : Bool)
  | pv (n : Nat) (agg : Bool)
  deriving Inhabited, DecidableEq
inductive SK where
  | str
  | sl (sz : Nat) (agg : Bool)
  | arr (len sz : Nat) (agg : Bool)
  deriving Inhabited, DecidableEq
inductive EK where
  | int (k : IntKind)
  | bool
  | str
  deriving Inhabited, DecidableEq
inductive AI where
  | mov (x : Opnd)
  | rngS (x : Opnd)
  | nextS (x : Opnd)
  | pick (c a b : Opnd)
  | alloc (n : Nat) (agg : Bool) (z : LV)
  | box (n : Nat) (agg : Bool) (x : Opnd)
  | build (n : Nat) (z : List LV) (parts : List (Nat × Nat × Bool × Opnd))
  | buildSl (sz : Nat) (agg : Bool) (len : Nat) (z : FV) (parts : List (Nat × Opnd))
  | load (n : Nat) (agg : Bool) (a : Opnd)
  | store (n : Nat) (agg : Bool) (a v : Opnd)
  | nilck (x : Opnd)
  | binI (op : BinOp) (k : IntKind) (x y : Opnd)
  | shft (op : BinOp) (k yk : IntKind) (x y : Opnd)
  | binS (op : BinOp) (x y : Opnd)
  | binB (neg : Bool) (x y : Opnd)
  | eqA (neg : Bool) (ks : List EK) (x y : Opnd)
  | eqNil (neg : Bool) (x : Opnd)
  | notB (x : Opnd)
  | negI (k : IntKind) (x : Opnd)
  | conv (k k' : IntKind) (x : Opnd)
  | i2s (k : IntKind) (x : Opnd)
  | b2s (x : Opnd)
  | s2b (x : Opnd)
  | mkSl (sz : Nat) (agg : Bool) (bytes : Nat) (z : FV) (len cap : Opnd)
  | slice (k : SK) (x : Opnd) (lo hi mx : Option Opnd)
  | fadr (off : Nat) (x : Opnd)
  | field (m n : Nat) (agg : Bool) (off : Nat) (x : Opnd)
  | iadr (k : SK) (x i : Opnd)
  | index (k : SK) (x i : Opnd)
  | extract (x : Opnd) (i : Nat)
  | call (f : Nat) (args : List (Opnd × Mode)) (outs : List Mode)
  | len (k : SK) (x : Opnd)
  | append (sz : Nat) (agg : Bool) (bytes : Nat) (str : Bool) (x y : Opnd)
  | mkFn (f : Nat) (caps : List Opnd)
  | callV (x : Opnd) (args : List Opnd)
  | slArr (len sz : Nat) (x : Opnd)
  | slTail (len : Nat) (x i : Opnd)
  deriving Inhabited
structure AOper where
  dst : Option Nat
  ins : AI
  guard : Option (Nat × Bool)
  kind : Option EK
  deriving Inhabited
structure DOper where
  o : AOper
  deps : List Nat
  deriving Inhabited
inductive ACode where
  | skip
  | region (ops : List AOper)
  | draws (ops : List DOper)
  | seq (a b : ACode)
  | cond (c : Opnd) (a b : ACode)
  | block (id : Nat) (c : ACode)
  | loop (live out : List Nat) (c : ACode)
  | trim (live : List Nat) (c : ACode)
  | exit (id : Nat)
  | ret
  deriving Inhabited
inductive RV where
  | tmp (t : Nat)
  | cell (a n : Nat) (agg : Bool)
  deriving Inhabited
abbrev Ans := List TV × List LV
structure AFunc where
  np : Nat
  res : List (RV × Mode)
  body : ACode
  prim : Option (List TV → Option Ans)
  deriving Inhabited
section steps
variable {β : Type}
def ev (st : St) : Opnd → (LV → Option β) → Option β
  | .c v, K => K v
  | .t n, K => match aget n st.env with | some v => K v | none => none
def evs (st : St) : List Opnd → (List LV → Option β) → Option β
  | [], K => K []
  | x :: r, K => ev st x fun v => evs st r fun l => K (v :: l)
def when (b : Bool) (k : Option β) : Option β := match b with | true => k | false => none
def getI (k : IntKind) (v : LV) (K : Int → Option β) : Option β := when (v.isInt k) (K v.toInt)
def getN (v : LV) (K : Int → Option β) : Option β := when v.isNum (K v.toInt)
def getB (v : LV) (K : Bool → Option β) : Option β := when v.isBool (K v.toBool)
def getS (v : LV) (K : ByteArray → Option β) : Option β := when v.isStr (K v.toStr)
def alive : Option Blk → Bool
  | some (.row _ _ _) => true
  | some (.ice _ _ _) => true
  | some (.var _ _ _) => true
  | some (.icv _ _ _) => true
  | _ => false
def exps (n : Nat) (v : LV) (K : List LV → Option β) : Option β :=
  match v with
  | .ag cs => when (cs.length == n) (K cs)
  | .fz e => when (e.isAg n) (K ((List.range n).map fun j => .fz (e.cell j)))
  | _ => none
def lfits (n : Nat) (agg : Bool) (v : LV) : Bool := match v with
  | .fz e => e.fits n agg
  | .ag cs => agg && cs.length == n
  | .tup _ => false
  | _ => !agg && n == 1
def allFz : List LV → Bool
  | [] => true
  | .fz _ :: r => allFz r
  | _ => false
def mkAg (cs : List LV) : LV := match allFz cs with | true => .fz (.ag (cs.map LV.toFz)) | false => .ag cs
def part (m n : Nat) (agg : Bool) (off : Nat) (v : LV) (K : LV → Option β) : Option β :=
  match v with
  | .ag cs => when (cs.length == m) (match agg with
    | true => when (Nat.ble (off + n) m) (K (mkAg ((cs.drop off).take n)))
    | false => match cs[off]? with | some x => K x | none => none)
  | .fz e => when (e.isAg m) (match agg with
    | true => when (Nat.ble (off + n) m) (K (.fz (.ag ((List.range n).map fun j => e.cell (off + j)))))
    | false => when (Nat.blt off m) (K (.fz (e.cell off))))
  | _ => none
def putPart (m n : Nat) (agg : Bool) (off : Nat) (v x : LV) (K : LV → Option β) : Option β :=
  match agg with
  | false =>
    match v, x with
    | .fz e, .fz y => when (e.isAg m && y.fits 1 false) (when (Nat.blt off m) (K (.fz (.ag (e.toAg.set off y)))))
    | v, x => match x with
      | .ag _ => none
      | .tup _ => none
      | .fz y => when (y.fits 1 false) (exps m v fun cs => when (Nat.blt off m) (K (mkAg (cs.set off x))))
      | x => exps m v fun cs => when (Nat.blt off m) (K (mkAg (cs.set off x)))
  | true => exps m v fun cs => exps n x fun ds => when (Nat.ble (off + n) m) (K (mkAg (cs.take off ++ ds ++ cs.drop (off + n))))
def frzs (f : List (Nat × Blk) → LV → (FV → List (Nat × Blk) → Option β) → Option β) : List (Nat × Blk) → List LV → (List FV → List (Nat × Blk) → Option β) → Option β
  | h, [], K => K [] h
  | h, v :: r, K => f h v fun e h' => frzs f h' r fun l h'' => K (e :: l) h''
def frz : Nat → List (Nat × Blk) → LV → (FV → List (Nat × Blk) → Option β) → Option β
  | 0, _, _, _ => none
  | m + 1, h, v, K =>
    match v with
    | .fz e => K e h
    | .nils => K (.sl []) h
    | .rw key => match aget key h with
      | some (.row sz agg xs) => K (.sl xs) (aset key (.ice sz agg xs) h)
      | some (.ice _ _ xs) => K (.sl xs) h
      | _ => none
    | .loc key off len => match aget key h with
      | some (.row sz agg xs) => when (Nat.ble (off + len) xs.length) (K (.sl ((xs.drop off).take len)) (aset key (.ice sz agg xs) h))
      | some (.ice _ _ xs) => when (Nat.ble (off + len) xs.length) (K (.sl ((xs.drop off).take len)) h)
      | _ => none
    | .ptr key i off => match aget key h with
      | some (.var n agg v) => when (i == 0) (frz m h v fun e h' => match aget key h' with
        | some (.var _ _ _) => K (.pt n agg e off) (aset key (.icv n agg e) h')
        | _ => none)
      | some (.row sz agg xs) => when (Nat.blt i xs.length) (K (.pt sz agg (xs.getD i .nilp) off) (aset key (.ice sz agg xs) h))
      | some (.ice sz agg xs) => when (Nat.blt i xs.length) (K (.pt sz agg (xs.getD i .nilp) off) h)
      | some (.icv n agg e) => when (i == 0) (K (.pt n agg e off) h)
      | _ => none
    | .ag cs => frzs (frz m) h cs fun l h' => K (.ag l) h'
    | .clo f cs => frzs (frz m) h cs fun l h' => K (.fn f l) h'
    | .tup _ => none
def closed : Nat → LV → Bool
  | 0, _ => false
  | _ + 1, .fz _ => true
  | _ + 1, .nils => true
  | m + 1, .ag cs => cs.all (closed m)
  | _, _ => false
inductive GV where
  | f (e : FV)
  | v (x : LV) (m : Mode)
  deriving Inhabited
def chill (h : List (Nat × Blk)) (v : LV) (K : List (Nat × Blk) → Option β) : Option β :=
  match v with
  | .ptr key _ _ => (match aget key h with
    | some (.var _ _ u) => (match u.isFz with
      | true => K h
      | false => frz 5 h u fun e h' => match aget key h' with
        | some (.var n agg _) => K (aset key (.var n agg (.fz e)) h')
        | _ => none)
    | _ => K h)
  | _ => K h
def gives : List (Nat × Blk) → List (LV × Mode) → (List GV → List (Nat × Blk) → Option β) → Option β
  | h, [], K => K [] h
  | h, (v, m) :: r, K => match m with
    | .fz => frz 5 h v fun e h' => gives h' r fun l h'' => K (.f e :: l) h''
    | .pv n agg => chill h v fun h' => gives h' r fun l h'' => K (.v v (.pv n agg) :: l) h''
    | m => gives h r fun l h' => K (.v v m :: l) h'
def fills (h : List (Nat × Blk)) : List GV → (List TV → List Nat → Option β) → Option β
  | [], K => K [] []
  | .f e :: r, K => fills h r fun ts ks => K (.fz e :: ts) ks
  | .v x m :: r, K => match m with
    | .fz => none
    | .pv _ _ => (match x with
      | .fz e => when e.isNil (fills h r fun ts ks => K (.fz e :: ts) ks)
      | .ptr key i off => when (i == 0 && off == 0) (match aget key h with
        | some (.var n agg v) => when (closed 3 v) (fills h r fun ts ks => K (.pv n agg v :: ts) (key :: ks))
        | _ => none)
      | _ => none)
    | .uq sz agg => (match x with
      | .nils => fills h r fun ts ks => K (.em :: ts) ks
      | .rw key => (match aget key h with
        | some (.row sz' agg' xs) => when (sz == sz' && agg == agg') (fills h r fun ts ks => K (.uq sz agg xs :: ts) (key :: ks))
        | _ => none)
      | _ => none)
def nodupB : List Nat → Bool
  | [] => true
  | k :: r => !(r.elem k) && nodupB r
def TV.isEm : TV → Bool | .em => true | _ => false
def TV.isUq (sz : Nat) (agg : Bool) : TV → Bool | .uq sz' agg' _ => sz == sz' && agg == agg' | _ => false
def TV.xs : TV → List FV | .uq _ _ xs => xs | _ => []
def TV.isPv (n : Nat) (agg : Bool) : TV → Bool | .pv n' agg' (.fz _) => n == n' && agg == agg' | _ => false
def TV.toV : TV → FV | .pv _ _ (.fz e) => e | _ => .nilp
def take1 (key : Nat) (m : Mode) (t : TV) (st : St) (K : LV → St → Option β) : Option β :=
  match m with
  | .fz => when t.isF (K (.fz t.toF) st)
  | .uq sz agg => (match t.isEm with
    | true => K .nils st
    | false => when (t.isUq sz agg) (match aget key st.heap with
      | none => K (.rw key) (st.set key (.row sz agg t.xs))
      | some _ => none))
  | .pv n agg => (match t.isF with
    | true => when t.toF.isNil (K (.fz .nilp) st)
    | false => when (t.isPv n agg) (match aget key st.heap with
      | none => K (.ptr key 0 0) (st.set key (.var n agg (.fz t.toV)))
      | some _ => none))
def takes : Nat → List Mode → List TV → St → (List LV → St → Option β) → Option β
  | _, [], [], st, K => K [] st
  | key, m :: ms, t :: ts, st, K => take1 key m t st fun v st' => takes (key + 1) ms ts st' fun l st'' => K (v :: l) st''
  | _, _, _, _, _ => none
def backs (h0 : List (Nat × Blk)) : List Nat → List LV → St → (St → Option β) → Option β
  | [], [], st, K => K st
  | k :: ks, v :: vs, st, K => match aget k h0 with
    | some (.var n agg _) => backs h0 ks vs (st.set k (.var n agg v)) K
    | _ => none
  | _, _, _, _ => none
def one (l : List LV) : LV := match l with | [v] => v | l => .tup l
def Mode.isFz : Mode → Bool | .fz => true | _ => false
def allF : List Mode → List TV → Bool
  | [], [] => true
  | _ :: ms, t :: ts => t.isF && allF ms ts
  | _, _ => false
def valsF : List Mode → Nat → List TV → List LV
  | [], _, _ => []
  | _ :: ms, j, ts => .fz (ts.getD j .em).toF :: valsF ms (j + 1) ts
def bvals : List Nat → Nat → List LV → List LV
  | [], _, _ => []
  | _ :: ks, j, vs => .fz (vs.getD j .nils).toFz :: bvals ks (j + 1) vs
def tvals : List Mode → Nat → List TV → List TV
  | [], _, _ => []
  | _ :: ms, j, ts => ts.getD j .em :: tvals ms (j + 1) ts
def formed (outs : List Mode) (ks : List Nat) (r : Ans) : Bool := match ks.isEmpty && outs.all Mode.isFz with
  | true => true
  | false => r.2.length == ks.length && (r.2.all LV.isFz && r.1.length == outs.length)
def answered (key : Nat) (outs : List Mode) (h : List (Nat × Blk)) (ks : List Nat) (r : Ans) (st : St) (K : LV → St → Option β) : Option β :=
  match ks.isEmpty && outs.all Mode.isFz with
  | true => when (r.2.isEmpty && allF outs r.1) (K (one (valsF outs 0 r.1)) st)
  | false => when (r.2.length == ks.length && (r.2.all LV.isFz && r.1.length == outs.length)) (backs h ks (bvals ks 0 r.2) st fun st => takes key outs (tvals outs 0 r.1) st fun l st => K (one l) st)
theorem bvals_cons : ∀ (ks : List Nat) (j : Nat) (v : LV) (vs : List LV), bvals ks (j + 1) (v :: vs) = bvals ks j vs
  | [], _, _, _ => rfl
  | k :: ks, j, v, vs => by simp only [bvals, bvals_cons ks (j + 1) v vs]; simp
theorem bvals_eq : ∀ (ks : List Nat) (vs : List LV), vs.length = ks.length → vs.all LV.isFz = true → bvals ks 0 vs = vs
  | [], [], _, _ => rfl
  | [], _ :: _, h, _ => by cases h
  | _ :: _, [], h, _ => by cases h
  | k :: ks, v :: vs, h, h2 => by
    simp only [List.all_cons, Bool.and_eq_true] at h2
    simp only [bvals, bvals_cons, bvals_eq ks vs (by simpa using h) h2.2]
    cases v <;> first | rfl | cases h2.1
theorem tvals_cons : ∀ (ms : List Mode) (j : Nat) (v : TV) (vs : List TV), tvals ms (j + 1) (v :: vs) = tvals ms j vs
  | [], _, _, _ => rfl
  | k :: ks, j, v, vs => by simp only [tvals, tvals_cons ks (j + 1) v vs]; simp
theorem tvals_eq : ∀ (ms : List Mode) (ts : List TV), ts.length = ms.length → tvals ms 0 ts = ts
  | [], [], _ => rfl
  | [], _ :: _, h => by cases h
  | _ :: _, [], h => by cases h
  | k :: ks, v :: vs, h => by simp only [tvals, tvals_cons, tvals_eq ks vs (by simpa using h)]; rfl
theorem valsF_cons : ∀ (ms : List Mode) (j : Nat) (t : TV) (ts : List TV), valsF ms (j + 1) (t :: ts) = valsF ms j ts
  | [], _, _, _ => rfl
  | m :: ms, j, t, ts => by simp only [valsF, valsF_cons ms (j + 1) t ts]; simp
theorem takes_allF : ∀ (ms : List Mode) (ts : List TV) (key : Nat) (st : St) (K : List LV → St → Option β), ms.all Mode.isFz = true → takes key ms ts st K = when (allF ms ts) (K (valsF ms 0 ts) st)
  | [], [], _, _, _, _ => rfl
  | [], _ :: _, _, _, _, _ => rfl
  | _ :: _, [], _, _, _, _ => rfl
  | m :: ms, t :: ts, key, st, K, h => by
    simp only [List.all_cons, Bool.and_eq_true] at h
    cases m with
    | fz =>
      simp only [takes, take1, allF, takes_allF ms ts (key + 1) st _ h.2]
      cases hb : t.isF with
      | false => rfl
      | true =>
        cases hb2 : allF ms ts with
        | false => rfl
        | true => simp [when, valsF, valsF_cons]
    | uq _ _ => simp [Mode.isFz] at h
    | pv _ _ => simp [Mode.isFz] at h
theorem answered_eq (key : Nat) (outs : List Mode) (h : List (Nat × Blk)) (ks : List Nat) (r : Ans) (st : St) (K : LV → St → Option β) :
    answered key outs h ks r st K = when (formed outs ks r) (backs h ks r.2 st fun st => takes key outs r.1 st fun l st => K (one l) st) := by
  unfold answered formed
  split
  · rename_i hq
    simp only [Bool.and_eq_true] at hq
    obtain ⟨h1, h2⟩ := hq
    obtain rfl : ks = [] := by cases ks with | nil => rfl | cons => cases h1
    obtain ⟨a, b⟩ := r
    cases b with
    | nil => simp only [backs, takes_allF outs a key st _ h2]; rfl
    | cons => rfl
  · cases hg : (r.2.length == ks.length && (r.2.all LV.isFz && r.1.length == outs.length)) with
    | false => rfl
    | true =>
      simp only [Bool.and_eq_true, beq_iff_eq] at hg
      rw [bvals_eq ks r.2 hg.1 hg.2.1, tvals_eq outs r.1 hg.2.2]
def intOp (op : BinOp) (k : IntKind) (a b : Int) (K : FV → Option β) : Option β :=
  match op with
  | .add => K (.int k (k.wrap (a + b)))
  | .sub => K (.int k (k.wrap (a - b)))
  | .mul => K (.int k (k.wrap (a * b)))
  | .quo => when (!decide (b = 0)) (K (.int k (k.wrap (a.tdiv b))))
  | .rem => when (!decide (b = 0)) (K (.int k (a.tmod b)))
  | .and => K (.int k (k.wrap (BitVec.ofInt k.bits a &&& BitVec.ofInt k.bits b).toNat))
  | .or => K (.int k (k.wrap (BitVec.ofInt k.bits a ||| BitVec.ofInt k.bits b).toNat))
  | .xor => K (.int k (k.wrap (BitVec.ofInt k.bits a ^^^ BitVec.ofInt k.bits b).toNat))
  | .andNot => K (.int k (k.wrap (BitVec.ofInt k.bits a &&& ~~~BitVec.ofInt k.bits b).toNat))
  | .eql => K (.bool (a == b))
  | .neq => K (.bool (a != b))
  | .lss => K (.bool (decide (a < b)))
  | .leq => K (.bool (decide (a ≤ b)))
  | .gtr => K (.bool (decide (a > b)))
  | .geq => K (.bool (decide (a ≥ b)))
  | _ => none
def shOp (op : BinOp) (k : IntKind) (a b : Int) (K : FV → Option β) : Option β :=
  when (!decide (b < 0)) (match op with
    | .shl => K (.int k (k.wrap (a * 2 ^ (min b.toNat k.bits))))
    | .shr => K (.int k (a.fdiv (2 ^ (min b.toNat k.bits))))
    | _ => none)
def strOp (op : BinOp) (a b : ByteArray) (K : FV → Option β) : Option β :=
  match op with
  | .add => when (decide (a.size + b.size ≤ 2 ^ 62)) (K (.str (a ++ b)))
  | .eql => K (.bool (a.toList == b.toList))
  | .neq => K (.bool !(a.toList == b.toList))
  | .lss => K (.bool (Op.bytesLess a.toList b.toList))
  | .leq => K (.bool (Op.bytesLess a.toList b.toList || a.toList == b.toList))
  | .gtr => K (.bool !(Op.bytesLess a.toList b.toList || a.toList == b.toList))
  | .geq => K (.bool !(Op.bytesLess a.toList b.toList))
  | _ => none
def ekOk : EK → FV → Bool
  | .int k, e => e.isInt k
  | .bool, e => e.isBool
  | .str, e => e.isStr
def ekEq : EK → FV → FV → Bool
  | .int _, a, b => a.toInt == b.toInt
  | .bool, a, b => a.toBool == b.toBool
  | .str, a, b => a.toStr.toList == b.toStr.toList
def eksOk : List EK → List FV → Bool
  | [], [] => true
  | k :: ks, e :: es => ekOk k e && eksOk ks es
  | _, _ => false
def eksEq : List EK → List FV → List FV → Bool
  | k :: ks, a :: as, b :: bs => ekEq k a b && eksEq ks as bs
  | _, _, _ => true
def rowLen (b : Option Blk) (K : Nat → Bool → List FV → Option β) : Option β :=
  match b with
  | some (.row sz agg xs) => K sz agg xs
  | some (.ice sz agg xs) => K sz agg xs
  | _ => none
def optI (o : Option LV) (d : Int) (K : Int → Option β) : Option β := match o with | none => K d | some v => getN v K
def frzO (h : List (Nat × Blk)) : List (Nat × LV) → (List (Nat × FV) → List (Nat × Blk) → Option β) → Option β
  | [], K => K [] h
  | (i, v) :: r, K => frz 5 h v fun e h' => frzO h' r fun l h'' => K ((i, e) :: l) h''
def sets (l : List FV) : List (Nat × FV) → List FV
  | [] => l
  | (i, e) :: r => sets (l.set i e) r
def evParts (st : St) : List (Nat × Opnd) → (List (Nat × LV) → Option β) → Option β
  | [], K => K []
  | (i, x) :: r, K => ev st x fun v => evParts st r fun l => K ((i, v) :: l)
def putParts (st : St) (m : Nat) : LV → List (Nat × Nat × Bool × Opnd) → (LV → Option β) → Option β
  | v, [], K => K v
  | v, (off, n, agg, x) :: r, K => ev st x fun y => putPart m n agg off v y fun v' => putParts st m v' r K
def evO (st : St) : Option Opnd → (Option LV → Option β) → Option β
  | none, K => K none
  | some x, K => ev st x fun v => K (some v)
def behind (sz : Nat) (agg str : Bool) (h : List (Nat × Blk)) (y : LV) (K : List FV → Option β) : Option β :=
  match str with
  | true => getS y fun s => K (s.data.toList.map fun b => .int .u8 b.toNat)
  | false => match y with
    | .nils => K []
    | .fz e => when (e.isSl && e.toSl.all (FV.fits sz agg)) (K e.toSl)
    | .rw key => rowLen (aget key h) fun sz' agg' xs => when (sz == sz' && agg == agg') (K xs)
    | .loc key off len => rowLen (aget key h) fun sz' agg' xs => when (sz == sz' && agg == agg' && Nat.ble (off + len) xs.length) (K ((xs.drop off).take len))
    | _ => none
def front (sz : Nat) (agg : Bool) (h : List (Nat × Blk)) (x : LV) (K : List FV → List (Nat × Blk) → Option β) : Option β :=
  match x with
  | .nils => K [] h
  | .rw key => match aget key h with
    | some (.row sz' agg' xs) => when (sz == sz' && agg == agg') (K xs (aset key .dead h))
    | _ => none
  | .loc key off len => match aget key h with
    | some (.row sz' agg' xs) => when (sz == sz' && agg == agg' && Nat.ble (off + len) xs.length) (K ((xs.drop off).take len) (aset key .dead h))
    | _ => none
  | _ => none
def isNils : LV → Bool | .nils => true | _ => false
def roomy : Nat := 140737488355328
variable (R : Nat → List TV → Option Ans)
def chunks (len sz : Nat) (e : FV) : List FV := (List.range len).map fun i => .ag ((e.toAg.drop (i * sz)).take sz)
def stepI (key : Nat) (st : St) (i : AI) (K : LV → St → Option β) : Option β :=
  match i with
  | .mov x => ev st x fun v => K v st
  | .pick c a b => ev st c fun c => getB c fun c => match c with | true => ev st a fun v => K v st | false => ev st b fun v => K v st
  | .alloc n agg z => when (lfits n agg z) (match aget key st.heap with | none => K (.ptr key 0 0) (st.set key (.var n agg z)) | some _ => none)
  | .box n agg x => ev st x fun v => when (lfits n agg v) (match aget key st.heap with | none => K (.ptr key 0 0) (st.set key (.var n agg v)) | some _ => none)
  | .build n z parts => putParts st n (mkAg z) parts fun v => K v st
  | .buildSl sz agg len z parts => evParts st parts fun l => frzO st.heap l fun fs h => when (fs.all fun p => p.2.fits sz agg && Nat.blt p.1 len) (match aget key h with
      | none => K (.rw key) { st with heap := aset key (.row sz agg (sets (List.replicate len z) fs)) h }
      | some _ => none)
  | .load n agg a => ev st a fun a => match a with
    | .fz p => when p.isPt (match n == p.ptN && (agg == p.ptAgg && p.ptOff == 0) with
      | true => K (.fz p.ptE) st
      | false => when p.ptAgg (part p.ptN n agg p.ptOff (.fz p.ptE) fun v => K v st))
    | .ptr key i off => (match aget key st.heap with
      | some (.var m agg' v) => when (i == 0) (match n == m && (agg == agg' && off == 0) with
        | true => K v st
        | false => when agg' (part m n agg off v fun v => K v st))
      | some (.icv m agg' e) => when (i == 0) (match n == m && (agg == agg' && off == 0) with
        | true => K (.fz e) st
        | false => when agg' (part m n agg off (.fz e) fun v => K v st))
      | b => rowLen b fun sz agg' xs => when (Nat.blt i xs.length) (match n == sz && (agg == agg' && off == 0) with
        | true => K (.fz (xs.getD i .nilp)) st
        | false => when agg' (part sz n agg off (.fz (xs.getD i .nilp)) fun v => K v st)))
    | _ => none
  | .store n agg a v => ev st a fun a => ev st v fun v => match a with
    | .ptr key i off => (match aget key st.heap with
      | some (.var m agg' u) => when (i == 0) (match n == m && (agg == agg' && off == 0) with
        | true => when (lfits m agg' v) (K (.tup []) (st.set key (.var m agg' v)))
        | false => when agg' (putPart m n agg off u v fun u => K (.tup []) (st.set key (.var m agg' u))))
      | some (.row _ _ _) => (frz 5 st.heap v fun e h => match aget key h with
        | some (.row sz agg' xs) => when (Nat.blt i xs.length) (match n == sz && (agg == agg' && off == 0) with
          | true => when (e.fits sz agg) (K (.tup []) { st with heap := aset key (.row sz agg' (xs.set i e)) h })
          | false => when agg' (putPart sz n agg off (.fz (xs.getD i .nilp)) (.fz e) fun u => match u with
            | .fz f => K (.tup []) { st with heap := aset key (.row sz agg' (xs.set i f)) h }
            | _ => none))
        | _ => none)
      | _ => none)
    | _ => none
  | .rngS x => ev st x fun x => getS x fun s => (match aget key st.heap with | none => K (.ptr key 0 0) (st.set key (.itr s 0)) | some _ => none)
  | .nextS x => ev st x fun x => (match x with
    | .ptr k i off => (match aget k st.heap with
      | some (.itr s pos) => when (i == 0 && off == 0) (match Nat.blt pos s.size with
        | true => K (.tup [.fz (.bool true), .fz (.int .i64 pos), .fz (.int .i32 (Utf8.decode s pos).1)]) (st.set k (.itr s (pos + (Utf8.decode s pos).2)))
        | false => K (.tup [.fz (.bool false)]) st)
      | _ => none)
    | _ => none)
  | .nilck x => ev st x fun v => match v with
    | .fz p => when p.isPt (K v st)
    | .ptr key _ _ => when (alive (aget key st.heap)) (K v st)
    | _ => none
  | .binI op k x y => ev st x fun x => ev st y fun y => getI k x fun a => getI k y fun b => intOp op k a b fun e => K (.fz e) st
  | .shft op k yk x y => ev st x fun x => ev st y fun y => getI k x fun a => getI yk y fun b => shOp op k a b fun e => K (.fz e) st
  | .binS op x y => ev st x fun x => ev st y fun y => getS x fun a => getS y fun b => strOp op a b fun e => K (.fz e) st
  | .binB neg x y => ev st x fun x => ev st y fun y => getB x fun a => getB y fun b => K (.fz (.bool (match neg with | true => !(a == b) | false => a == b))) st
  | .eqA neg ks x y => ev st x fun x => ev st y fun y => match x, y with
    | .fz a, .fz b => when (a.isAg ks.length && b.isAg ks.length) (when (eksOk ks a.toAg && eksOk ks b.toAg) (K (.fz (.bool (match neg with | true => !(eksEq ks a.toAg b.toAg) | false => eksEq ks a.toAg b.toAg))) st))
    | _, _ => none
  | .eqNil neg x => ev st x fun x => match x with
    | .fz p => when (p.isPt || p.isNil) (K (.fz (.bool (match neg with | true => !p.isNil | false => p.isNil))) st)
    | .ptr key _ _ => when (alive (aget key st.heap)) (K (.fz (.bool neg)) st)
    | _ => none
  | .notB x => ev st x fun x => getB x fun b => K (.fz (.bool !b)) st
  | .negI k x => ev st x fun x => getI k x fun a => K (.fz (.int k (k.wrap (0 - a)))) st
  | .conv k k' x => ev st x fun x => getI k x fun a => K (.fz (.int k' (k'.wrap a))) st
  | .i2s k x => ev st x fun x => getI k x fun a => K (.fz (.str (Utf8.encode a))) st
  | .b2s x => ev st x fun x => behind 1 false false st.heap x fun l => when (l.all (FV.isInt .u8)) (K (.fz (.str ⟨(l.map fun e => UInt8.ofNat e.toInt.toNat).toArray⟩)) st)
  | .s2b x => ev st x fun x => getS x fun s => match aget key st.heap with
    | none => K (.rw key) (st.set key (.row 1 false (s.data.toList.map fun b => .int .u8 b.toNat)))
    | some _ => none
  | .mkSl sz agg bytes z len cap => ev st len fun x => ev st cap fun y => getN x fun a => getN y fun b =>
      when (decide (0 ≤ a) && (decide (a ≤ b) && (decide (bytes * b ≤ roomy) && decide (b ≤ roomy)))) (match aget key st.heap with
        | none => K (.rw key) (st.set key (.row sz agg (List.replicate a.toNat z)))
        | some _ => none)
  | .slice k x lo hi mx => ev st x fun x => evO st lo fun lo => evO st hi fun hi => evO st mx fun mx => (match mx with
    | some m => (match k with
      | .sl sz agg => (match lo with
        | some _ => none
        | none => optI hi 1 fun h => getN m fun m => when (decide (h = 0) && decide (m = 0)) (match x with
          | .nils => K .nils st
          | .fz e => when e.isSl (K .nils st)
          | _ => none))
      | _ => none)
    | none => match k with
      | .str => getS x fun s => optI hi s.size fun h => optI lo 0 fun l =>
          when (decide (0 ≤ h) && decide (h ≤ s.size)) (when (decide (0 ≤ l) && decide (l ≤ h)) (K (.fz (.str (s.extract l.toNat h.toNat))) st))
      | .sl sz agg => (match x with
        | .nils => optI hi 0 fun h => optI lo 0 fun l => when (decide (h = 0) && decide (l = 0)) (K .nils st)
        | .fz e => when (e.isSl && e.toSl.all (FV.fits sz agg)) (optI hi e.toSl.length fun h => optI lo 0 fun l =>
            when (decide (0 ≤ h) && decide (h ≤ e.toSl.length)) (when (decide (0 ≤ l) && decide (l ≤ h)) (K (.fz (.sl ((e.toSl.take h.toNat).drop l.toNat))) st)))
        | .rw key => rowLen (aget key st.heap) fun sz' agg' xs => when (sz == sz' && agg == agg') (optI hi xs.length fun h => optI lo 0 fun l =>
            when (decide (0 ≤ h) && decide (h ≤ xs.length)) (when (decide (0 ≤ l) && decide (l ≤ h)) (K (.loc key l.toNat (h.toNat - l.toNat)) st)))
        | .loc key off len => rowLen (aget key st.heap) fun sz' agg' xs => when (sz == sz' && agg == agg') (optI hi len fun h => optI lo 0 fun l =>
            when (decide (0 ≤ h) && decide (h ≤ len)) (when (decide (0 ≤ l) && decide (l ≤ h)) (K (.loc key (off + l.toNat) (h.toNat - l.toNat)) st)))
        | _ => none)
      | .arr _ _ _ => none)
  | .fadr off x => ev st x fun x => match x with
    | .fz p => when p.isPt (K (.fz (.pt p.ptN p.ptAgg p.ptE (p.ptOff + off))) st)
    | .ptr key i o => when (alive (aget key st.heap)) (K (.ptr key i (o + off)) st)
    | _ => none
  | .field m n agg off x => ev st x fun x => part m n agg off x fun v => K v st
  | .iadr k x i => ev st x fun x => ev st i fun i => getN i fun i => match k with
    | .sl sz agg => (match x with
      | .fz e => when (e.isSl) (when (decide (0 ≤ i) && decide (i < e.toSl.length)) (when ((e.toSl.getD i.toNat .nilp).fits sz agg) (K (.fz (.pt sz agg (e.toSl.getD i.toNat .nilp) 0)) st)))
      | .rw key => rowLen (aget key st.heap) fun sz' agg' xs => when (sz == sz' && agg == agg') (when (decide (0 ≤ i) && decide (i < xs.length)) (K (.ptr key i.toNat 0) st))
      | .loc key off len => rowLen (aget key st.heap) fun sz' agg' xs => when (sz == sz' && agg == agg') (when (decide (0 ≤ i) && decide (i < len)) (K (.ptr key (off + i.toNat) 0) st))
      | _ => none)
    | .arr len sz _ => when (decide (0 ≤ i) && decide (i < len)) (match x with
      | .fz p => when p.isPt (K (.fz (.pt p.ptN p.ptAgg p.ptE (p.ptOff + i.toNat * sz))) st)
      | .ptr key j o => when (alive (aget key st.heap)) (K (.ptr key j (o + i.toNat * sz)) st)
      | _ => none)
    | .str => none
  | .index k x i => ev st x fun x => ev st i fun i => getN i fun i => match k with
    | .arr len sz agg => when (decide (0 ≤ i) && decide (i < len)) (part (len * sz) sz agg (i.toNat * sz) x fun v => K v st)
    | .str => getS x fun s => when (decide (0 ≤ i) && decide (i < s.size)) (K (.fz (.int .u8 (s.data.getD i.toNat 0).toNat)) st)
    | .sl _ _ => none
  | .extract x i => ev st x fun x => match x with
    | .tup vs => (match vs[i]? with | some v => K v st | none => none)
    | _ => none
  | .call f args outs => evs st (args.map Prod.fst) fun vs => gives st.heap (vs.zip (args.map Prod.snd)) fun gs h => fills h gs fun ts ks =>
      when (nodupB ks && ts.all TV.lends) (match R f ts with
        | none => none
        | some r => answered key outs h ks r { st with heap := h } K)
  | .len k x => ev st x fun x => match k with
    | .str => getS x fun s => K (.fz (.int .i64 s.size)) st
    | .arr len _ _ => K (.fz (.int .i64 len)) st
    | .sl sz agg => (match x with
      | .nils => K (.fz (.int .i64 0)) st
      | .fz e => when e.isSl (K (.fz (.int .i64 e.toSl.length)) st)
      | .rw key => rowLen (aget key st.heap) fun sz' agg' xs => when (sz == sz' && agg == agg') (K (.fz (.int .i64 xs.length)) st)
      | .loc key _ len => rowLen (aget key st.heap) fun _ _ _ => K (.fz (.int .i64 len)) st
      | _ => none)
  | .append sz agg bytes str x y => ev st x fun x => ev st y fun y => behind sz agg str st.heap y fun ys => front sz agg st.heap x fun xs h =>
      when (decide ((xs.length + ys.length) * bytes ≤ roomy) && decide (xs.length + ys.length ≤ roomy)) (match isNils x && ys.isEmpty with
        | true => K .nils st
        | false => match aget key h with
          | none => K (.rw key) { st with heap := aset key (.row sz agg (xs ++ ys)) h }
          | some _ => none)
  | .mkFn f caps => evs st caps fun vs => K (.clo f vs) st
  | .callV x args => ev st x fun v => match v with
    | .fz e => when e.isFn (evs st args fun vs => frzs (frz 5) st.heap vs fun es h => match R e.fnN ((es ++ e.fnC).map .fz) with
      | none => none
      | some r => answered key [.fz] h [] r { st with heap := h } K)
    | _ => none
  | .slArr len sz x => ev st x fun x => (match x with
    | .ptr k i off => (match aget k st.heap with
      | some (.var n agg v) => when (i == 0 && (off == 0 && (n == len * sz && agg))) (frz 5 st.heap v fun e h => match aget k h with
        | some (.var _ _ _) => K (.fz (.sl (chunks len sz e))) { st with heap := aset k (.icv n agg e) h }
        | _ => none)
      | _ => none)
    | _ => none)
  | .slTail len x i => ev st x fun x => ev st i fun i => getN i fun i => when (decide (0 ≤ i) && decide (i ≤ len)) (match x with
    | .ptr k j off => (match aget k st.heap with
      | some (.var n agg v) => when (j == 0 && (off == 0 && (n == len && agg))) (frz 5 st.heap v fun e h => match aget k h with
        | some (.var _ _ _) => when (e.toAg.all fun c => c.fits 1 false) (K (.fz (.sl (e.toAg.drop i.toNat))) { st with heap := aset k (.icv n agg e) h })
        | _ => none)
      | _ => none)
    | _ => none)
def putD (st : St) (d : Option Nat) (v : LV) : St := match d with | some d => st.put d v | none => st
def stepO (o : AOper) (st : St) (K : St → Option β) : Option β :=
  let go := stepI R (4 * o.dst.getD 0) st o.ins fun v st' => K (putD st' o.dst v)
  let no := K (putD st o.dst (.tup []))
  match o.guard with
  | none => go
  | some (t, want) => match aget t st.env with
    | some (.tup []) => no
    | some v => getB v fun b => match want with
      | true => (match b with | true => go | false => no)
      | false => (match b with | true => no | false => go)
    | none => none
def execOps : List AOper → St → (St → Option β) → Option β
  | [], st, K => K st
  | o :: r, st, K => stepO R o st fun st' => execOps r st' K
end steps
inductive AExit where
  | normal
  | exit (id : Nat)
  | ret
  deriving Inhabited
def keysOf (h : List (Nat × Blk)) : Nat → LV → List Nat
  | 0, _ => []
  | _ + 1, .rw k => [k]
  | _ + 1, .loc k _ _ => [k]
  | m + 1, .ptr k _ _ => k :: (match aget k h with | some (.var _ _ v) => keysOf h m v | _ => [])
  | m + 1, .ag cs => cs.flatMap (keysOf h m)
  | m + 1, .tup cs => cs.flatMap (keysOf h m)
  | m + 1, .clo _ cs => cs.flatMap (keysOf h m)
  | _ + 1, _ => []
def dedup : List Nat → List Nat → List Nat
  | acc, [] => acc.reverse
  | acc, k :: r => bif acc.elem k then dedup acc r else dedup (k :: acc) r
def renK (pin keys : List Nat) (k : Nat) : Nat := bif pin.elem k then k else bif keys.elem k then 4096 + keys.idxOf k else 4095
mutual
def renV (f : Nat → Nat) : LV → LV
  | .rw k => .rw (f k)
  | .loc k o l => .loc (f k) o l
  | .ptr k i o => .ptr (f k) i o
  | .ag cs => .ag (renVs f cs)
  | .tup cs => .tup (renVs f cs)
  | .clo g cs => .clo g (renVs f cs)
  | .fz v => .fz v
  | .nils => .nils
def renVs (f : Nat → Nat) : List LV → List LV
  | [] => []
  | v :: r => renV f v :: renVs f r
end
def renB (f : Nat → Nat) : Blk → Blk
  | .var n agg v => .var n agg (renV f v)
  | b => b
def liveEnv (live : List Nat) (env : List (Nat × LV)) : List (Nat × LV) := env.filter fun p => live.elem p.1
def hPick (h : List (Nat × Blk)) (f : Nat → Nat) : List Nat → List (Nat × Blk)
  | [] => []
  | k :: r => match aget k h with | some b => (f k, renB f b) :: hPick h f r | none => hPick h f r
def canon (pin live : List Nat) (st : St) : St :=
  let env := liveEnv live st.env
  let keys := (dedup [] (env.flatMap fun p => keysOf st.heap 6 p.2)).filter fun k => !(pin.elem k)
  let f := renK pin keys
  { env := env.map fun p => (p.1, renV f p.2), heap := hPick st.heap f pin ++ ((4095, .dead) :: hPick st.heap f keys) }
def Opnd.tmps : Opnd → List Nat | .t n => [n] | .c _ => []
def optTmps : Option Opnd → List Nat | none => [] | some x => x.tmps
def AI.tmps : AI → List Nat
  | .mov x => x.tmps
  | .rngS x => x.tmps
  | .nextS x => x.tmps
  | .pick c a b => c.tmps ++ (a.tmps ++ b.tmps)
  | .alloc _ _ _ => []
  | .box _ _ x => x.tmps
  | .build _ _ ps => ps.flatMap fun p => p.2.2.2.tmps
  | .buildSl _ _ _ _ ps => ps.flatMap fun p => p.2.tmps
  | .load _ _ a => a.tmps
  | .store _ _ a v => a.tmps ++ v.tmps
  | .nilck x => x.tmps
  | .binI _ _ x y => x.tmps ++ y.tmps
  | .shft _ _ _ x y => x.tmps ++ y.tmps
  | .binS _ x y => x.tmps ++ y.tmps
  | .binB _ x y => x.tmps ++ y.tmps
  | .eqA _ _ x y => x.tmps ++ y.tmps
  | .eqNil _ x => x.tmps
  | .notB x => x.tmps
  | .negI _ x => x.tmps
  | .conv _ _ x => x.tmps
  | .i2s _ x => x.tmps
  | .b2s x => x.tmps
  | .s2b x => x.tmps
  | .mkSl _ _ _ _ x y => x.tmps ++ y.tmps
  | .slice _ x lo hi mx => x.tmps ++ (optTmps lo ++ (optTmps hi ++ optTmps mx))
  | .fadr _ x => x.tmps
  | .field _ _ _ _ x => x.tmps
  | .iadr _ x i => x.tmps ++ i.tmps
  | .index _ x i => x.tmps ++ i.tmps
  | .extract x _ => x.tmps
  | .call _ args _ => args.flatMap fun p => p.1.tmps
  | .len _ x => x.tmps
  | .append _ _ _ _ x y => x.tmps ++ y.tmps
  | .mkFn _ caps => caps.flatMap Opnd.tmps
  | .callV x args => x.tmps ++ args.flatMap Opnd.tmps
  | .slArr _ _ x => x.tmps
  | .slTail _ x i => x.tmps ++ i.tmps
def AI.reads : AI → Bool
  | .alloc _ _ _ => false
  | .box _ _ _ => false
  | .rngS _ => false
  | .nextS _ => false
  | .buildSl _ _ _ _ _ => false
  | .store _ _ _ _ => false
  | .s2b _ => false
  | .mkSl _ _ _ _ _ _ => false
  | .call _ _ _ => false
  | .append _ _ _ _ _ _ => false
  | .callV _ _ => false
  | .slArr _ _ _ => false
  | .slTail _ _ _ => false
  | _ => true
mutual
def namesIn (T : List Nat) : LV → Bool
  | .rw k => T.elem k
  | .loc k _ _ => T.elem k
  | .ptr k _ _ => T.elem k
  | .ag cs => namesIns T cs
  | .tup cs => namesIns T cs
  | .clo _ cs => namesIns T cs
  | .fz _ => true
  | .nils => true
def namesIns (T : List Nat) : List LV → Bool
  | [] => true
  | v :: r => namesIn T v && namesIns T r
end
def namesH (T : List Nat) (h : List (Nat × Blk)) : Bool := h.all fun p => match p.2 with | .var _ _ v => namesIn T v | _ => true
def touch (st : St) (ts : List Nat) (d : Option Nat) : List Nat :=
  dedup [] (ts.flatMap (fun t => match aget t st.env with | some v => keysOf st.heap 6 v | none => []) ++ (match d with | some d => [4 * d, 4 * d + 1, 4 * d + 2, 4 * d + 3] | none => []))
def pickA {α : Type} (l : List (Nat × α)) : List Nat → List (Nat × α)
  | [] => []
  | k :: r => match aget k l with | some v => (k, v) :: pickA l r | none => pickA l r
def restrict (ts T : List Nat) (st : St) : St := { env := pickA st.env ts, heap := pickA st.heap T }
def mergeH (h' : List (Nat × Blk)) : List Nat → List (Nat × Blk) → List (Nat × Blk)
  | [], h => h
  | k :: r, h => match aget k h' with | some b => mergeH h' r (aset k b h) | none => mergeH h' r h
structure TI where
  rt : List Nat
  wt : List Nat
  T : List Nat
  wr : Bool
def disjB (a b : List Nat) : Bool := a.all fun k => !(b.elem k)
def apartTI (a b : TI) : Bool := disjB a.wt (b.rt ++ b.wt) && (disjB b.wt a.rt && (match a.wr || b.wr with | true => disjB a.T b.T | false => true))
def maskTab : List Nat → List (List Nat) → List Nat
  | acc, [] => acc
  | acc, d :: r => maskTab (acc ++ [d.foldl (fun s k => s ||| (2 ^ k ||| acc.getD k 0)) 0]) r
def depsOk : Nat → List (List Nat) → Bool
  | _, [] => true
  | i, d :: r => (d.all fun k => Nat.blt k i) && depsOk (i + 1) r
def indep (masks : List Nat) (tis : List TI) : Bool :=
  tis.zipIdx.all fun p => tis.zipIdx.all fun q => match Nat.blt p.2 q.2 with
    | true => (masks.getD q.2 0).testBit p.2 || apartTI p.1 q.1
    | false => true
def dstL (d : Option Nat) : List Nat := match d with | some d => [d] | none => []
section draws
variable (R : Nat → List TV → Option Ans) {β : Type}
def drawO (o : AOper) (st : St) (K : St → TI → Option β) : Option β :=
  let ts := o.ins.tmps
  let T := touch st ts o.dst
  let go := fun g => when (namesH T (restrict ts T st).heap && (restrict ts T st).env.all fun p => namesIn T p.2) (stepI R (4 * o.dst.getD 0) (restrict ts T st) o.ins fun v s =>
    when (namesIn T v && namesH T s.heap) (K (putD { env := st.env, heap := match o.ins.reads with | true => st.heap | false => mergeH s.heap T st.heap } o.dst v) ⟨ts ++ g, dstL o.dst, T, !o.ins.reads⟩))
  let no := fun g => K (putD st o.dst (.tup [])) ⟨g, dstL o.dst, [], false⟩
  match o.guard with
  | none => go []
  | some (t, want) => match aget t st.env with
    | some (.tup []) => no [t]
    | some v => getB v fun b => match want with
      | true => (match b with | true => go [t] | false => no [t])
      | false => (match b with | true => no [t] | false => go [t])
    | none => none
def drawRun : List DOper → St → (St → List TI → Option β) → Option β
  | [], st, K => K st []
  | o :: r, st, K => drawO R o.o st fun st' ti => drawRun r st' fun st'' tis => K st'' (ti :: tis)
end draws
section exec
variable (R : Nat → List TV → Option Ans) (k : Nat) (pin : List Nat)
def loopD (live out : List Nat) (body : St → (AExit → St → Option (AExit × St)) → Option (AExit × St)) : Nat → St → Option (AExit × St)
  | 0, _ => none
  | n + 1, st => body st fun e st' => match e with
    | .normal => loopD live out body n (canon pin live st')
    | e => some (e, canon pin out st')
def exec : ACode → (β : Type) → St → (AExit → St → Option β) → Option β
  | .skip, _, st, K => K .normal st
  | .region ops, _, st, K => execOps R ops st fun st' => K .normal st'
  | .draws ops, _, st, K => drawRun R ops st fun st' tis => when (depsOk 0 (ops.map DOper.deps) && indep (maskTab [] (ops.map DOper.deps)) tis) (K .normal st')
  | .seq a b, β, st, K => exec a β st fun e st' => match e with
    | .normal => exec b β st' K
    | e => K e st'
  | .cond c a b, β, st, K => ev st c fun v => getB v fun t => match t with
    | true => exec a β st K
    | false => exec b β st K
  | .block id c, β, st, K => exec c β st fun e st' => match e with
    | .exit j => bif j == id then K .normal st' else K (.exit j) st'
    | e => K e st'
  | .loop live out c, _, st, K => match loopD pin live out (exec c (AExit × St)) k (canon pin live st) with
    | some r => K r.1 r.2
    | none => none
  | .trim live c, β, st, K => exec c β (canon pin live st) K
  | .exit id, _, st, K => K (.exit id) st
  | .ret, _, st, K => K .ret st
def enters : Nat → List TV → St
  | _, [] => ⟨[], []⟩
  | j, t :: r => match t with
    | .fz v => (enters (j + 1) r).put j (.fz v)
    | .uq _ _ _ => enters (j + 1) r
    | .em => enters (j + 1) r
    | .pv n agg v => ((enters (j + 1) r).set (4 * j) (.var n agg v)).put j (.ptr (4 * j) 0 0)
def leaves (st : St) : List RV → (List LV → Option Ans) → Option Ans
  | [], K => K []
  | .tmp t :: r, K => ev st (.t t) fun v => leaves st r fun l => K (v :: l)
  | .cell a n agg :: r, K => stepI R 0 st (.load n agg (.t a)) fun v _ => leaves st r fun l => K (v :: l)
def pinned (h : List (Nat × Blk)) : List Nat → (List LV → Option Ans) → Option Ans
  | [], K => K []
  | k :: r, K => match aget k h with
    | some (.var _ _ v) => when (closed 3 v) (pinned h r fun l => K (v :: l))
    | _ => none
def chills {β : Type} : List (Nat × Blk) → List Nat → (List (Nat × Blk) → Option β) → Option β
  | h, [], K => K h
  | h, k :: r, K => chill h (.ptr k 0 0) fun h' => chills h' r K
def pinsOf : Nat → List TV → List Nat
  | _, [] => []
  | j, .pv _ _ _ :: r => 4 * j :: pinsOf (j + 1) r
  | j, _ :: r => pinsOf (j + 1) r
def callF (af : AFunc) (ts : List TV) : Option Ans :=
  when (ts.length == af.np && Nat.blt af.np 1000) (exec R k (pinsOf 0 ts) af.body Ans (enters 0 ts) fun e st => match e with
    | .exit _ => none
    | _ => leaves R st (af.res.map Prod.fst) fun vs => chills st.heap (pinsOf 0 ts) fun h0 => gives h0 (vs.zip (af.res.map Prod.snd)) fun gs h => fills h gs fun us ks => pinned h (pinsOf 0 ts) fun l => when (nodupB (ks ++ pinsOf 0 ts)) (some (us, l)))
end exec
def run (tab : Nat → Option AFunc) : Nat → Nat → List TV → Option Ans
  | 0, _, _ => none
  | k + 1, f, ts => match tab f with
    | none => none
    | some af => match af.prim with
      | some p => p ts
      | none => callF (run tab k) k af ts
end Go.Ab
end
section
namespace Go.Ab
theorem aget_aset {α : Type} (k j : Nat) (v : α) : ∀ l : List (Nat × α), aget j (aset k v l) = if k = j then some v else aget j l
  | [] => by
    simp only [aset, aget]
    by_cases h : k = j
    · simp [h]
    · simp [show (k == j) = false by simpa using h, h]
  | (i, u) :: r => by
    have ih := aget_aset k j v r
    simp only [aset]
    by_cases h1 : i = k
    · subst h1
      simp only [beq_self_eq_true, cond_true, aget]
      by_cases h : i = j
      · simp [h]
      · simp [show (i == j) = false by simpa using h, h]
    · have e1 : (i == k) = false := by simpa using h1
      simp only [e1, cond_false]
      by_cases h2 : Nat.blt k i = true
      · simp only [h2, cond_true, aget]
        by_cases h : k = j
        · simp [h]
        · simp [show (k == j) = false by simpa using h, h]
      · simp only [h2, cond_false, aget]
        by_cases h : i = j
        · subst h
          have : k ≠ i := fun e => h1 e.symm
          simp [this]
        · simp only [show (i == j) = false by simpa using h, cond_false, ih]
theorem when_some {β : Type} {b : Bool} {k : Option β} {r : β} (h : when b k = some r) : b = true ∧ k = some r := by
  cases b with
  | true => exact ⟨rfl, h⟩
  | false => cases h
inductive Rep (W : World) (S : Nat → Prop) : FV → Value → Prop
  | int (k : IntKind) (n : Int) : Rep W S (.int k n) (.int k n)
  | bool (b : Bool) : Rep W S (.bool b) (.bool b)
  | str (s : ByteArray) : Rep W S (.str s) (.string s)
  | nilp : Rep W S .nilp (.pointer none)
  | ag (cs : List FV) (vs : Array Value) (hl : vs.size = cs.length) (h1 : ∀ (j : Nat) (v : Value), vs[j]? = some v → v.oneCell' = true)
      (h : ∀ (j : Nat) (e : FV) (v : Value), cs[j]? = some e → vs[j]? = some v → Rep W S e v) : Rep W S (.ag cs) (.agg vs)
  | sl0 (a : Option Addr) (cap : Nat) : Rep W S (.sl []) (.slice a 0 cap)
  | sl (es : List FV) (B off cap sz : Nat) (agg : Bool) (g : Nat → Value) (hS : S B) (hcap : es.length ≤ cap) (hf : ∀ e ∈ es, e.fits sz agg = true)
      (hc : ∀ j, j < es.length * sz → W.cell? ⟨B, off + j, none⟩ = some (g j)) (h1 : ∀ j, j < es.length * sz → (g j).oneCell' = true)
      (h : ∀ (i : Nat) (e : FV) (j : Nat) (x : FV), es[i]? = some e → e.cells[j]? = some x → Rep W S x (g (i * sz + j))) : Rep W S (.sl es) (.slice (some ⟨B, off, none⟩) es.length cap)
  | pt (n : Nat) (agg : Bool) (e : FV) (off B base : Nat) (g : Nat → Value) (hS : S B) (hf : e.fits n agg = true)
      (hc : ∀ j, j < n → W.cell? ⟨B, base + j, none⟩ = some (g j)) (h1 : ∀ j, j < n → (g j).oneCell' = true)
      (h : ∀ (j : Nat) (x : FV), e.cells[j]? = some x → Rep W S x (g j)) : Rep W S (.pt n agg e off) (.pointer (some ⟨B, base + off, none⟩))
  | fn (f : Nat) (caps : List FV) (vs : Array Value) (hl : vs.size = caps.length) (h : ∀ (j : Nat) (e : FV) (v : Value), caps[j]? = some e → vs[j]? = some v → Rep W S e v) : Rep W S (.fn f caps) (.func (.func f) #[] vs)
theorem cell_same {W W' : World} {B o : Nat} (h : W'.heap[B]? = W.heap[B]?) : W'.cell? ⟨B, o, none⟩ = W.cell? ⟨B, o, none⟩ := World.cell?_of_block (w := W) h
theorem frozen_same {W W' : World} {B o : Nat} (h : W'.heap[B]? = W.heap[B]?) : W'.frozen? ⟨B, o, none⟩ = W.frozen? ⟨B, o, none⟩ := World.frozen?_of_block (w := W) h
theorem Rep.mono {W W' : World} {S S' : Nat → Prop} (hS : ∀ b, S b → S' b) (hW : ∀ b, S b → W'.heap[b]? = W.heap[b]?) {e : FV} {v : Value} (h : Rep W S e v) : Rep W' S' e v := by
  induction h with
  | int k n => exact .int k n
  | bool b => exact .bool b
  | str s => exact .str s
  | nilp => exact .nilp
  | ag cs vs hl h1 _ ih => exact .ag cs vs hl h1 ih
  | sl0 a cap => exact .sl0 a cap
  | sl es B off cap sz agg g hB hcap hf hc h1 _ ih => exact .sl es B off cap sz agg g (hS _ hB) hcap hf (fun j hj => (cell_same (hW _ hB)).trans (hc j hj)) h1 ih
  | pt n agg e off B base g hB hf hc h1 _ ih => exact .pt n agg e off B base g (hS _ hB) hf (fun j hj => (cell_same (hW _ hB)).trans (hc j hj)) h1 ih
  | fn f caps vs hl _ ih => exact .fn f caps vs hl ih
theorem fits_one {e : FV} {n : Nat} (h : e.fits n false = true) : n = 1 ∧ (∀ cs, e ≠ .ag cs) ∧ e.cells = [e] := by
  cases e <;> simp_all [FV.fits, FV.cells]
theorem fits_agg {e : FV} {n : Nat} (h : e.fits n true = true) : ∃ cs, e = .ag cs ∧ cs.length = n := by
  cases e <;> simp_all [FV.fits, FV.isAg]
theorem fits_cells {e : FV} {n : Nat} {agg : Bool} (h : e.fits n agg = true) : e.cells.length = n := by
  cases agg with
  | true => obtain ⟨cs, rfl, h'⟩ := fits_agg h; exact h'
  | false => obtain ⟨h1, _, h2⟩ := fits_one h; rw [h2, h1]; rfl
theorem Rep.one {W : World} {S : Nat → Prop} {e : FV} {v : Value} (h : Rep W S e v) (he : ∀ cs, e ≠ .ag cs) : v.oneCell' = true := by
  cases h <;> first | rfl | exact absurd rfl (he _)
def loaded (n : Nat) (agg : Bool) (g : Nat → Value) : Value := match agg with
  | true => .agg ((List.range n).map g).toArray
  | false => g 0
theorem range_get {α : Type} {n j : Nat} {g : Nat → α} {v : α} (h : ((List.range n).map g)[j]? = some v) : j < n ∧ v = g j := by
  rw [List.getElem?_map] at h
  obtain ⟨i, hi, rfl⟩ := Option.map_eq_some_iff.1 h
  by_cases hj : j < n
  · rw [List.getElem?_range hj] at hi
    cases hi
    exact ⟨hj, rfl⟩
  · rw [List.getElem?_eq_none (by simpa using hj)] at hi
    cases hi
theorem rep_loaded {W : World} {S : Nat → Prop} {e : FV} {n : Nat} {agg : Bool} {g : Nat → Value} (hf : e.fits n agg = true) (h1 : ∀ j, j < n → (g j).oneCell' = true)
    (h : ∀ (j : Nat) (x : FV), e.cells[j]? = some x → Rep W S x (g j)) : Rep W S e (loaded n agg g) := by
  cases agg with
  | true =>
    obtain ⟨cs, rfl, hl⟩ := fits_agg hf
    refine .ag cs _ (by simp [hl]) (fun j v hv => ?_) (fun j x v hx hv => ?_)
    · rw [List.getElem?_toArray] at hv
      obtain ⟨hj, rfl⟩ := range_get hv
      exact h1 j hj
    · rw [List.getElem?_toArray] at hv
      obtain ⟨hj, rfl⟩ := range_get hv
      exact h j x hx
  | false =>
    obtain ⟨rfl, he, hc⟩ := fits_one hf
    exact h 0 e (by rw [hc]; simp)
theorem rep_cells {W : World} {S : Nat → Prop} {e : FV} {v : Value} {n : Nat} {agg : Bool} (hf : e.fits n agg = true) (h : Rep W S e v) :
    v.cells.size = n ∧ (∀ u ∈ v.cells.toList, u.oneCell' = true) ∧ (∀ (j : Nat) (x : FV) (u : Value), e.cells[j]? = some x → v.cells[j]? = some u → Rep W S x u) := by
  cases agg with
  | true =>
    obtain ⟨cs, rfl, hl⟩ := fits_agg hf
    cases h with
    | ag _ vs hvl h1 h =>
      refine ⟨by simp [Value.cells, hvl, hl], fun u hu => ?_, fun j x u hx hu => h j x u hx hu⟩
      obtain ⟨j, hj⟩ := List.getElem?_of_mem hu
      exact h1 j u (by simpa [Value.cells] using hj)
  | false =>
    obtain ⟨rfl, he, hc⟩ := fits_one hf
    have h1 := h.one he
    have hv : v.cells = #[v] := by cases v <;> simp_all [Value.cells, Value.oneCell']
    refine ⟨by simp [hv], fun u hu => ?_, fun j x u hx hu => ?_⟩
    · rw [hv] at hu; simp at hu; subst hu; exact h1
    · rw [hc] at hx; rw [hv] at hu
      cases j with
      | zero => simp at hx hu; subst hx; subst hu; exact h
      | succ j => simp at hx
structure Place where
  B : Nat
  off : Nat
  cap : Nat
def Blk.rowOf : Blk → Option (Nat × Bool × List FV)
  | .row sz agg xs => some (sz, agg, xs)
  | .ice sz agg xs => some (sz, agg, xs)
  | _ => none
def Blk.varOf : Blk → Option (Nat × Bool)
  | .var n agg _ => some (n, agg)
  | .itr _ _ => some (0, true)
  | .icv n agg _ => some (n, agg)
  | _ => none
def Blk.owned : Blk → Bool
  | .row _ _ _ => true
  | .var _ _ _ => true
  | .itr _ _ => true
  | _ => false
abbrev Heap := List (Nat × Blk)
inductive RepL (W : World) (S : Nat → Prop) (ρ : Nat → Place) (h : Heap) : LV → Value → Prop
  | fz {e : FV} {v : Value} (r : Rep W S e v) : RepL W S ρ h (.fz e) v
  | nils (a : Option Addr) : RepL W S ρ h .nils (.slice a 0 0)
  | rw (key : Nat) (v : Value) (b : Blk) (hb : aget key h = some b)
      (hv : ∀ sz agg xs, b.rowOf = some (sz, agg, xs) → v = .slice (some ⟨(ρ key).B, (ρ key).off, none⟩) xs.length (ρ key).cap) (h1 : v.oneCell' = true) : RepL W S ρ h (.rw key) v
  | loc (key off len : Nat) (v : Value) (b : Blk) (hb : aget key h = some b)
      (hv : ∀ sz agg xs, b.rowOf = some (sz, agg, xs) → ∃ o cap, v = .slice (some ⟨(ρ key).B, o, none⟩) len cap ∧ off + len ≤ xs.length ∧ len ≤ cap ∧ off + cap ≤ (ρ key).cap ∧ (0 < cap → o = (ρ key).off + off * sz)) (h1 : v.oneCell' = true)
      (hl : b.rowOf.isSome = true → True) : RepL W S ρ h (.loc key off len) v
  | ptr (key i off : Nat) (v : Value) (b : Blk) (hb : aget key h = some b)
      (hv : ∀ sz agg xs, b.rowOf = some (sz, agg, xs) → v = .pointer (some ⟨(ρ key).B, (ρ key).off + i * sz + off, none⟩))
      (hu : ∀ n agg, b.varOf = some (n, agg) → i = 0 ∧ v = .pointer (some ⟨(ρ key).B, (ρ key).off + off, none⟩)) (h1 : v.oneCell' = true) : RepL W S ρ h (.ptr key i off) v
  | ag (cs : List LV) (vs : Array Value) (hl : vs.size = cs.length) (h1 : ∀ (j : Nat) (v : Value), vs[j]? = some v → v.oneCell' = true)
      (hh : ∀ (j : Nat) (e : LV) (v : Value), cs[j]? = some e → vs[j]? = some v → RepL W S ρ h e v) : RepL W S ρ h (.ag cs) (.agg vs)
  | tup (cs : List LV) (vs : Array Value) (hl : vs.size = cs.length) (hh : ∀ (j : Nat) (e : LV) (v : Value), cs[j]? = some e → vs[j]? = some v → RepL W S ρ h e v) : RepL W S ρ h (.tup cs) (.tuple vs)
  | clo (f : Nat) (caps : List LV) (vs : Array Value) (hl : vs.size = caps.length) (hh : ∀ (j : Nat) (e : LV) (v : Value), caps[j]? = some e → vs[j]? = some v → RepL W S ρ h e v) : RepL W S ρ h (.clo f caps) (.func (.func f) #[] vs)
structure RowAt (W : World) (S : Nat → Prop) (p : Place) (sz : Nat) (agg : Bool) (xs : List FV) : Prop where
  lt : p.B < W.heap.size
  len : xs.length ≤ p.cap
  fits : ∀ e ∈ xs, e.fits sz agg = true
  cells : ∃ g : Nat → Value, (∀ j, j < p.cap * sz → W.cell? ⟨p.B, p.off + j, none⟩ = some (g j)) ∧ (∀ j, j < xs.length * sz → (g j).oneCell' = true) ∧
    (∀ (i : Nat) (e : FV) (j : Nat) (x : FV), xs[i]? = some e → e.cells[j]? = some x → Rep W S x (g (i * sz + j)))
structure VarAt (W : World) (S : Nat → Prop) (ρ : Nat → Place) (h : Heap) (B n : Nat) (agg : Bool) (v : LV) : Prop where
  lt : B < W.heap.size
  fits : lfits n agg v = true
  cells : ∃ g : Nat → Value, (∀ j, j < n → W.cell? ⟨B, 0 + j, none⟩ = some (g j)) ∧ (∀ j, j < n → (g j).oneCell' = true) ∧ RepL W S ρ h v (loaded n agg g)
def Thaw (W : World) (B off n : Nat) : Prop := ∀ j, j < n → W.frozen? ⟨B, off + j, none⟩ = false
def RepB (W : World) (S : Nat → Prop) (ρ : Nat → Place) (h : Heap) (p : Place) : Blk → Prop
  | .row sz agg xs => ¬ S p.B ∧ RowAt W S p sz agg xs ∧ Thaw W p.B p.off (p.cap * sz)
  | .ice sz agg xs => S p.B ∧ RowAt W S p sz agg xs
  | .var n agg v => ¬ S p.B ∧ p.off = 0 ∧ VarAt W S ρ h p.B n agg v ∧ Thaw W p.B 0 n
  | .itr s pos => ¬ S p.B ∧ p.off = 0 ∧ p.B < W.heap.size ∧ W.heap[p.B]? = some (.stringIter s pos)
  | .icv n agg e => S p.B ∧ p.off = 0 ∧ VarAt W S (fun _ => ⟨0, 0, 0⟩) [] p.B n agg (.fz e)
  | .dead => True
def Blk.le (b b' : Blk) : Prop := b' = .dead ∨ (∃ sz agg xs xs', b.rowOf = some (sz, agg, xs) ∧ b'.rowOf = some (sz, agg, xs') ∧ xs'.length = xs.length) ∨ (∃ n agg, b.varOf = some (n, agg) ∧ b'.varOf = some (n, agg))
theorem Blk.le_refl (b : Blk) : b.le b := by
  cases b with
  | dead => exact .inl rfl
  | var n agg v => exact .inr (.inr ⟨n, agg, rfl, rfl⟩)
  | itr s pos => exact .inr (.inr ⟨0, true, rfl, rfl⟩)
  | icv n agg e => exact .inr (.inr ⟨n, agg, rfl, rfl⟩)
  | row sz agg xs => exact .inr (.inl ⟨sz, agg, xs, xs, rfl, rfl, rfl⟩)
  | ice sz agg xs => exact .inr (.inl ⟨sz, agg, xs, xs, rfl, rfl, rfl⟩)
theorem Blk.le_trans {a b c : Blk} (h1 : a.le b) (h2 : b.le c) : a.le c := by
  rcases h2 with rfl | ⟨sz, agg, xs, xs', hb, hc, hl⟩ | ⟨n, agg, hb, hc⟩
  · exact .inl rfl
  · rcases h1 with rfl | ⟨sz', agg', ys, ys', ha, hb', hl'⟩ | ⟨n, agg', ha, hb'⟩
    · cases hb
    · rw [hb] at hb'; cases hb'
      exact .inr (.inl ⟨_, _, _, _, ha, hc, hl.trans hl'⟩)
    · cases b <;> simp_all [Blk.rowOf, Blk.varOf]
  · rcases h1 with rfl | ⟨sz', agg', ys, ys', ha, hb', hl'⟩ | ⟨n', agg', ha, hb'⟩
    · cases hb
    · cases b <;> simp_all [Blk.rowOf, Blk.varOf]
    · rw [hb] at hb'; cases hb'
      exact .inr (.inr ⟨_, _, ha, hc⟩)
structure Later (W : World) (S : Nat → Prop) (ρ : Nat → Place) (h : Heap) (W' : World) (S' : Nat → Prop) (ρ' : Nat → Place) (h' : Heap) : Prop where
  s : ∀ b, S b → S' b
  w : ∀ b, S b → W'.heap[b]? = W.heap[b]?
  dom : ∀ k b, aget k h = some b → ρ' k = ρ k ∧ ∃ b', aget k h' = some b' ∧ b.le b'
theorem Later.refl (W : World) (S : Nat → Prop) (ρ : Nat → Place) (h : Heap) : Later W S ρ h W S ρ h := ⟨fun _ h => h, fun _ _ => rfl, fun _ b hb => ⟨rfl, b, hb, b.le_refl⟩⟩
theorem Later.trans {W1 W2 W3 : World} {S1 S2 S3 : Nat → Prop} {ρ1 ρ2 ρ3 : Nat → Place} {h1 h2 h3 : Heap} (a : Later W1 S1 ρ1 h1 W2 S2 ρ2 h2) (b : Later W2 S2 ρ2 h2 W3 S3 ρ3 h3) : Later W1 S1 ρ1 h1 W3 S3 ρ3 h3 :=
  ⟨fun k hk => b.s k (a.s k hk), fun k hk => (b.w k (a.s k hk)).trans (a.w k hk), fun k c hc => by
    obtain ⟨e1, c', hc', l1⟩ := a.dom k c hc
    obtain ⟨e2, c'', hc'', l2⟩ := b.dom k c' hc'
    exact ⟨e2.trans e1, c'', hc'', Blk.le_trans l1 l2⟩⟩
theorem RepL.later {W W' : World} {S S' : Nat → Prop} {ρ ρ' : Nat → Place} {h h' : Heap} (L : Later W S ρ h W' S' ρ' h') {v : LV} {x : Value} (r : RepL W S ρ h v x) : RepL W' S' ρ' h' v x := by
  induction r with
  | fz r => exact .fz (r.mono L.s L.w)
  | nils a => exact .nils a
  | rw key v b hb hv h1 =>
    obtain ⟨e, b', hb', l⟩ := L.dom key b hb
    refine .rw key v b' hb' (fun sz agg xs hx => ?_) h1
    rcases l with rfl | ⟨sz', agg', ys, ys', h2, h3, h4⟩ | ⟨n, agg', h2, h3⟩
    · cases hx
    · rw [hx] at h3; cases h3
      rw [hv _ _ _ h2, e, h4]
    · cases b' <;> simp_all [Blk.rowOf, Blk.varOf]
  | loc key off len v b hb hv h1 _ =>
    obtain ⟨e, b', hb', l⟩ := L.dom key b hb
    refine .loc key off len v b' hb' (fun sz agg xs hx => ?_) h1 (fun _ => trivial)
    rcases l with rfl | ⟨sz', agg', ys, ys', h2, h3, h4⟩ | ⟨n, agg', h2, h3⟩
    · cases hx
    · rw [hx] at h3; cases h3
      rw [e, h4]; exact hv _ _ _ h2
    · cases b' <;> simp_all [Blk.rowOf, Blk.varOf]
  | ptr key i off v b hb hv hu h1 =>
    obtain ⟨e, b', hb', l⟩ := L.dom key b hb
    refine .ptr key i off v b' hb' (fun sz agg xs hx => ?_) (fun n agg hx => ?_) h1
    · rcases l with rfl | ⟨sz', agg', ys, ys', h2, h3, h4⟩ | ⟨n, agg', h2, h3⟩
      · cases hx
      · rw [hx] at h3; cases h3
        rw [e]; exact hv _ _ _ h2
      · cases b' <;> simp_all [Blk.rowOf, Blk.varOf]
    · rcases l with rfl | ⟨sz', agg', ys, ys', h2, h3, h4⟩ | ⟨n', agg', h2, h3⟩
      · cases hx
      · cases b' <;> simp_all [Blk.rowOf, Blk.varOf]
      · rw [hx] at h3; cases h3
        rw [e]; exact hu _ _ h2
  | ag cs vs hl h1 _ ih => exact .ag cs vs hl h1 ih
  | tup cs vs hl _ ih => exact .tup cs vs hl ih
  | clo f cs vs hl _ ih => exact .clo f cs vs hl ih
theorem RowAt.mono {W W' : World} {S S' : Nat → Prop} (hS : ∀ b, S b → S' b) (hW : ∀ b, S b → W'.heap[b]? = W.heap[b]?) {p : Place} {sz : Nat} {agg : Bool} {xs : List FV} (hp : W'.heap[p.B]? = W.heap[p.B]?) (hs : W.heap.size ≤ W'.heap.size)
    (r : RowAt W S p sz agg xs) : RowAt W' S' p sz agg xs := by
  obtain ⟨lt, len, fits, g, h1, h2, h3⟩ := r
  exact ⟨Nat.lt_of_lt_of_le lt hs, len, fits, g, fun j hj => (cell_same hp).trans (h1 j hj), h2, fun i e j x he hx => (h3 i e j x he hx).mono hS hW⟩
theorem VarAt.later {W W' : World} {S S' : Nat → Prop} {ρ ρ' : Nat → Place} {h h' : Heap} (L : Later W S ρ h W' S' ρ' h') {B n : Nat} {agg : Bool} {v : LV} (hp : W'.heap[B]? = W.heap[B]?) (hs : W.heap.size ≤ W'.heap.size)
    (r : VarAt W S ρ h B n agg v) : VarAt W' S' ρ' h' B n agg v := by
  obtain ⟨lt, fits, g, h1, h2, h3⟩ := r
  exact ⟨Nat.lt_of_lt_of_le lt hs, fits, g, fun j hj => (cell_same hp).trans (h1 j hj), h2, h3.later L⟩
structure Ext (W0 : World) (M : Nat → Prop) (W : World) : Prop where
  os : W.os = W0.os
  tape : W.tape = W0.tape
  output : W.output = W0.output
  size : W0.heap.size ≤ W.heap.size
  block : ∀ b, b < W0.heap.size → ¬ M b → W.heap[b]? = W0.heap[b]?
structure HInv (W0 : World) (S0 M : Nat → Prop) (W : World) (S : Nat → Prop) (ρ : Nat → Place) (h : Heap) : Prop where
  ext : Ext W0 M W
  sub : ∀ b, S0 b → S b
  sup : ∀ b, S b → S0 b ∨ W0.heap.size ≤ b ∨ M b
  lt : ∀ b, S b → b < W.heap.size
  blk : ∀ k b, aget k h = some b → RepB W S ρ h (ρ k) b
  own : ∀ k b, aget k h = some b → b.owned = true → W0.heap.size ≤ (ρ k).B ∨ M (ρ k).B
  dis : ∀ k k' b b', aget k h = some b → aget k' h = some b' → b.owned = true → b'.owned = true → k ≠ k' → (ρ k).B ≠ (ρ k').B
structure Poke (W : World) (X : Nat → Prop) (W' : World) : Prop where
  os : W'.os = W.os
  tape : W'.tape = W.tape
  output : W'.output = W.output
  size : W.heap.size ≤ W'.heap.size
  block : ∀ b, b < W.heap.size → ¬ X b → W'.heap[b]? = W.heap[b]?
theorem Poke.refl (W : World) (X : Nat → Prop) : Poke W X W := ⟨rfl, rfl, rfl, Nat.le_refl _, fun _ _ _ => rfl⟩
theorem Poke.trans {W1 W2 W3 : World} {X : Nat → Prop} (a : Poke W1 X W2) (b : Poke W2 X W3) : Poke W1 X W3 :=
  ⟨b.os.trans a.os, b.tape.trans a.tape, b.output.trans a.output, Nat.le_trans a.size b.size, fun k hk hx => (b.block k (Nat.lt_of_lt_of_le hk a.size) hx).trans (a.block k hk hx)⟩
theorem Poke.mono {W W' : World} {X Y : Nat → Prop} (h : ∀ b, X b → Y b) (a : Poke W X W') : Poke W Y W' := ⟨a.os, a.tape, a.output, a.size, fun k hk hy => a.block k hk fun hx => hy (h k hx)⟩
variable {W0 W W' : World} {S0 M S : Nat → Prop} {ρ : Nat → Place} {h : Heap}
theorem Ext.poke {X : Nat → Prop} (a : Ext W0 M W) (b : Poke W X W') (hx : ∀ k, X k → W0.heap.size ≤ k ∨ M k) : Ext W0 M W' :=
  ⟨b.os.trans a.os, b.tape.trans a.tape, b.output.trans a.output, Nat.le_trans a.size b.size, fun k hk hm => (b.block k (Nat.lt_of_lt_of_le hk a.size) fun hk' => (hx k hk').elim (fun h => absurd hk (by omega)) hm).trans (a.block k hk hm)⟩
theorem RepB.lt {p : Place} {b : Blk} (r : RepB W S ρ h p b) (hb : b ≠ .dead) : p.B < W.heap.size := by
  cases b with
  | dead => exact absurd rfl hb
  | row sz agg xs => exact r.2.1.lt
  | ice sz agg xs => exact r.2.lt
  | var n agg v => exact r.2.2.1.lt
  | itr s pos => exact r.2.2.1
  | icv n agg e => exact r.2.2.lt
theorem RepB.later {W' : World} {S' : Nat → Prop} {ρ' : Nat → Place} {h' : Heap} (L : Later W S ρ h W' S' ρ' h') {p : Place} {b : Blk} (hp : W'.heap[p.B]? = W.heap[p.B]?) (hs : W.heap.size ≤ W'.heap.size) (hn : ¬ S p.B → b.owned = true → ¬ S' p.B)
    (r : RepB W S ρ h p b) : RepB W' S' ρ' h' p b := by
  cases b with
  | dead => trivial
  | row sz agg xs => exact ⟨hn r.1 rfl, r.2.1.mono L.s L.w hp hs, fun j hj => (frozen_same hp).trans (r.2.2 j hj)⟩
  | ice sz agg xs => exact ⟨L.s _ r.1, r.2.mono L.s L.w hp hs⟩
  | var n agg v => exact ⟨hn r.1 rfl, r.2.1, r.2.2.1.later L hp hs, fun j hj => (frozen_same hp).trans (r.2.2.2 j hj)⟩
  | itr s pos => exact ⟨hn r.1 rfl, r.2.1, Nat.lt_of_lt_of_le r.2.2.1 hs, hp.trans r.2.2.2⟩
  | icv n agg e => exact ⟨L.s _ r.1, r.2.1, r.2.2.later ⟨L.s, L.w, fun k b hb => by cases hb⟩ hp hs⟩
theorem HInv.poke {X : Nat → Prop} (I : HInv W0 S0 M W S ρ h) (p : Poke W X W') (hx : ∀ k, X k → W0.heap.size ≤ k ∨ M k) (hS : ∀ k, X k → ¬ S k)
    (ho : ∀ k b, aget k h = some b → b.owned = true → ¬ X (ρ k).B) : HInv W0 S0 M W' S ρ h ∧ Later W S ρ h W' S ρ h := by
  have L : Later W S ρ h W' S ρ h := ⟨fun _ h => h, fun b hb => p.block b (I.lt b hb) fun hxb => hS b hxb hb, fun _ b hb => ⟨rfl, b, hb, b.le_refl⟩⟩
  refine ⟨⟨I.ext.poke p hx, I.sub, I.sup, fun b hb => Nat.lt_of_lt_of_le (I.lt b hb) p.size, fun k b hb => ?_, I.own, I.dis⟩, L⟩
  have r := I.blk k b hb
  cases b with
  | dead => trivial
  | row sz agg xs => exact r.later L (p.block _ (r.lt (by simp)) (ho k _ hb rfl)) p.size (fun h _ => h)
  | var n agg v => exact r.later L (p.block _ (r.lt (by simp)) (ho k _ hb rfl)) p.size (fun h _ => h)
  | itr s pos => exact r.later L (p.block _ (r.lt (by simp)) (ho k _ hb rfl)) p.size (fun h _ => h)
  | ice sz agg xs => exact r.later L (L.w _ r.1) p.size (fun h _ => h)
  | icv n agg e => exact r.later L (L.w _ r.1) p.size (fun h _ => h)
def upd (ρ : Nat → Place) (key : Nat) (p : Place) : Nat → Place := fun k => if k = key then p else ρ k
theorem HInv.add (I : HInv W0 S0 M W S ρ h) {key : Nat} {p : Place} {b : Blk} (hk : aget key h = none) (hb : b.owned = true) (ho : W0.heap.size ≤ p.B ∨ M p.B)
    (hd : ∀ k b, aget k h = some b → b.owned = true → (ρ k).B ≠ p.B) (r : ∀ ρ' h', Later W S ρ h W S ρ' h' → RepB W S ρ' h' p b) :
    HInv W0 S0 M W S (upd ρ key p) (aset key b h) ∧ Later W S ρ h W S (upd ρ key p) (aset key b h) := by
  have L : Later W S ρ h W S (upd ρ key p) (aset key b h) := ⟨fun _ h => h, fun _ _ => rfl, fun k c hc => by
    have hne : k ≠ key := fun e => by subst e; rw [hk] at hc; cases hc
    exact ⟨by simp [upd, hne], c, by rw [aget_aset, if_neg (fun e => hne e.symm)]; exact hc, c.le_refl⟩⟩
  refine ⟨⟨I.ext, I.sub, I.sup, I.lt, fun k c hc => ?_, fun k c hc hco => ?_, fun k k' c c' hc hc' h1 h2 hne => ?_⟩, L⟩
  · rw [aget_aset] at hc
    by_cases e : key = k
    · subst e
      simp at hc; subst hc
      simpa [upd] using r _ _ L
    · rw [if_neg e] at hc
      have e' : k ≠ key := fun x => e x.symm
      simp only [upd, if_neg e']
      exact (I.blk k c hc).later L rfl (Nat.le_refl _) (fun h _ => h)
  · rw [aget_aset] at hc
    by_cases e : key = k
    · subst e; simpa [upd] using ho
    · rw [if_neg e] at hc
      have e' : k ≠ key := fun x => e x.symm
      simp only [upd, if_neg e']
      exact I.own k c hc hco
  · rw [aget_aset] at hc hc'
    by_cases e : key = k
    · subst e
      have e' : k' ≠ key := fun x => hne x.symm
      rw [if_neg (fun x => e' x.symm)] at hc'
      simp only [upd, if_neg e', if_true]
      exact fun x => hd k' c' hc' h2 x.symm
    · have e1 : k ≠ key := fun x => e x.symm
      rw [if_neg e] at hc
      by_cases e2 : key = k'
      · subst e2
        simp only [upd, if_neg e1, if_true]
        exact hd k c hc h1
      · rw [if_neg e2] at hc'
        have e3 : k' ≠ key := fun x => e2 x.symm
        simp only [upd, if_neg e1, if_neg e3]
        exact I.dis k k' c c' hc hc' h1 h2 hne
theorem HInv.kill (I : HInv W0 S0 M W S ρ h) (key : Nat) {b : Blk} (hk : aget key h = some b) :
    HInv W0 S0 M W S ρ (aset key .dead h) ∧ Later W S ρ h W S ρ (aset key .dead h) := by
  have L : Later W S ρ h W S ρ (aset key .dead h) := ⟨fun _ h => h, fun _ _ => rfl, fun k c hc => by
    refine ⟨rfl, ?_⟩
    by_cases e : key = k
    · exact ⟨.dead, by rw [aget_aset, if_pos e], .inl rfl⟩
    · exact ⟨c, by rw [aget_aset, if_neg e]; exact hc, c.le_refl⟩⟩
  have old : ∀ k c, aget k (aset key .dead h) = some c → c.owned = true → aget k h = some c ∧ k ≠ key := fun k c hc ho => by
    rw [aget_aset] at hc
    by_cases e : key = k
    · rw [if_pos e] at hc; cases hc; cases ho
    · rw [if_neg e] at hc; exact ⟨hc, fun x => e x.symm⟩
  refine ⟨⟨I.ext, I.sub, I.sup, I.lt, fun k c hc => ?_, fun k c hc hco => I.own k c (old k c hc hco).1 hco, fun k k' c c' hc hc' h1 h2 hne => I.dis k k' c c' (old k c hc h1).1 (old k' c' hc' h2).1 h1 h2 hne⟩, L⟩
  rw [aget_aset] at hc
  by_cases e : key = k
  · rw [if_pos e] at hc; cases hc; trivial
  · rw [if_neg e] at hc
    exact (I.blk k c hc).later L rfl (Nat.le_refl _) (fun h _ => h)
theorem HInv.freeze (I : HInv W0 S0 M W S ρ h) (key : Nat) {sz : Nat} {agg : Bool} {xs : List FV} (hk : aget key h = some (.row sz agg xs)) :
    HInv W0 S0 M W (fun b => S b ∨ b = (ρ key).B) ρ (aset key (.ice sz agg xs) h) ∧ Later W S ρ h W (fun b => S b ∨ b = (ρ key).B) ρ (aset key (.ice sz agg xs) h) := by
  have L : Later W S ρ h W (fun b => S b ∨ b = (ρ key).B) ρ (aset key (.ice sz agg xs) h) := ⟨fun _ h => .inl h, fun _ _ => rfl, fun k c hc => by
    refine ⟨rfl, ?_⟩
    by_cases e : key = k
    · subst e
      rw [hk] at hc; cases hc
      exact ⟨.ice sz agg xs, by rw [aget_aset, if_pos rfl], .inr (.inl ⟨sz, agg, xs, xs, rfl, rfl, rfl⟩)⟩
    · exact ⟨c, by rw [aget_aset, if_neg e]; exact hc, c.le_refl⟩⟩
  have r0 := I.blk key _ hk
  have old : ∀ k c, aget k (aset key (.ice sz agg xs) h) = some c → c.owned = true → aget k h = some c ∧ k ≠ key := fun k c hc ho => by
    rw [aget_aset] at hc
    by_cases e : key = k
    · rw [if_pos e] at hc; cases hc; cases ho
    · rw [if_neg e] at hc; exact ⟨hc, fun x => e x.symm⟩
  refine ⟨⟨I.ext, fun b hb => .inl (I.sub b hb), fun b hb => ?_, fun b hb => ?_, fun k c hc => ?_, fun k c hc hco => I.own k c (old k c hc hco).1 hco, fun k k' c c' hc hc' h1 h2 hne => I.dis k k' c c' (old k c hc h1).1 (old k' c' hc' h2).1 h1 h2 hne⟩, L⟩
  · rcases hb with hb | rfl
    · exact I.sup b hb
    · exact .inr (I.own key _ hk rfl)
  · rcases hb with hb | rfl
    · exact I.lt b hb
    · exact r0.2.1.lt
  · by_cases e : key = k
    · subst e
      rw [aget_aset, if_pos rfl] at hc; cases hc
      exact ⟨.inr rfl, r0.2.1.mono L.s L.w rfl (Nat.le_refl _)⟩
    · rw [aget_aset, if_neg e] at hc
      refine (I.blk k c hc).later L rfl (Nat.le_refl _) (fun hn hco => ?_)
      rintro (hb | hb)
      · exact hn hb
      · exact I.dis k key c _ hc hk hco rfl (fun x => e x.symm) hb
theorem HInv.set (I : HInv W0 S0 M W S ρ h) {key : Nat} {b b' : Blk} (hk : aget key h = some b) (hb : b.owned = true) (hb' : b'.owned = true) (hle : b.le b') (p : Poke W (fun k => k = (ρ key).B) W')
    (r : ∀ h', Later W S ρ h W' S ρ h' → RepB W' S ρ h' (ρ key) b') : HInv W0 S0 M W' S ρ (aset key b' h) ∧ Later W S ρ h W' S ρ (aset key b' h) := by
  have hnS : ¬ S (ρ key).B := by
    have r0 := I.blk key b hk
    cases b with
    | row sz agg xs => exact r0.1
    | var n agg v => exact r0.1
    | itr s pos => exact r0.1
    | ice sz agg xs => cases hb
    | icv n agg e => cases hb
    | dead => cases hb
  have L : Later W S ρ h W' S ρ (aset key b' h) := ⟨fun _ h => h, fun c hc => p.block c (I.lt c hc) (fun e => hnS (e ▸ hc)), fun k c hc => by
    refine ⟨rfl, ?_⟩
    by_cases e : key = k
    · subst e
      rw [hk] at hc; cases hc
      exact ⟨b', by rw [aget_aset, if_pos rfl], hle⟩
    · exact ⟨c, by rw [aget_aset, if_neg e]; exact hc, c.le_refl⟩⟩
  have old : ∀ k c, aget k (aset key b' h) = some c → c.owned = true → ∃ c', aget k h = some c' ∧ c'.owned = true := fun k c hc ho => by
    rw [aget_aset] at hc
    by_cases e : key = k
    · subst e; exact ⟨b, hk, hb⟩
    · rw [if_neg e] at hc; exact ⟨c, hc, ho⟩
  refine ⟨⟨I.ext.poke p (fun k e => by subst e; exact I.own key b hk hb), I.sub, I.sup, fun c hc => Nat.lt_of_lt_of_le (I.lt c hc) p.size, fun k c hc => ?_, fun k c hc hco => ?_, fun k k' c c' hc hc' h1 h2 hne => ?_⟩, L⟩
  · by_cases e : key = k
    · subst e
      rw [aget_aset, if_pos rfl] at hc; cases hc
      exact r _ L
    · rw [aget_aset, if_neg e] at hc
      have r1 := I.blk k c hc
      cases c with
      | dead => trivial
      | row sz agg xs => exact r1.later L (p.block _ (r1.lt (by simp)) (I.dis k key _ b hc hk rfl hb (fun x => e x.symm))) p.size (fun h _ => h)
      | var n agg v => exact r1.later L (p.block _ (r1.lt (by simp)) (I.dis k key _ b hc hk rfl hb (fun x => e x.symm))) p.size (fun h _ => h)
      | itr s pos => exact r1.later L (p.block _ (r1.lt (by simp)) (I.dis k key _ b hc hk rfl hb (fun x => e x.symm))) p.size (fun h _ => h)
      | ice sz agg xs => exact r1.later L (L.w _ r1.1) p.size (fun h _ => h)
      | icv n agg e => exact r1.later L (L.w _ r1.1) p.size (fun h _ => h)
  · obtain ⟨c', hc', ho'⟩ := old k c hc hco
    exact I.own k c' hc' ho'
  · obtain ⟨d, hd, hdo⟩ := old k c hc h1
    obtain ⟨d', hd', hdo'⟩ := old k' c' hc' h2
    exact I.dis k k' d d' hd hd' hdo hdo' hne
end Go.Ab
end
section
namespace Go.Ab
def szOf (P : Program) (t : TypeId) : Option (Nat × Bool) :=
  match P.info? t, P.underlying t with
  | some i, some (.struct _) => some (i.size, true)
  | some i, some (.array _ _) => some (i.size, true)
  | some i, some _ => match i.size with | 1 => some (1, false) | _ => none
  | _, _ => none
def cst1 : Value → Option LV
  | .int k n => some (.fz (.int k n))
  | .bool b => some (.fz (.bool b))
  | .string s => some (.fz (.str s))
  | .pointer none => some (.fz .nilp)
  | .slice none 0 0 => some .nils
  | _ => none
def csts : List Value → Option (List LV)
  | [] => some []
  | v :: r => match cst1 v, csts r with | some x, some l => some (x :: l) | _, _ => none
def cst : Value → Option LV
  | .agg vs => (csts vs.toList).map mkAg
  | v => cst1 v
def fcst1 : Value → Option FV
  | .int k n => some (.int k n)
  | .bool b => some (.bool b)
  | .string s => some (.str s)
  | .pointer none => some .nilp
  | .slice none 0 0 => some (.sl [])
  | _ => none
def fcsts : List Value → Option (List FV)
  | [] => some []
  | v :: r => match fcst1 v, fcsts r with | some x, some l => some (x :: l) | _, _ => none
def fcst : Value → Option FV
  | .agg vs => (fcsts vs.toList).map .ag
  | v => fcst1 v
def opn : Operand → Option Opnd
  | .tmp t => some (.t t)
  | .const v => (cst v).map .c
  | .func f => some (.c (.clo f []))
  | .global _ => none
section
variable {W : World} {S : Nat → Prop} {ρ : Nat → Place} {h : Heap}
theorem cst1_ok {v : Value} {l : LV} (e : cst1 v = some l) : RepL W S ρ h l v ∧ v.oneCell' = true := by
  unfold cst1 at e
  split at e <;> cases e
  · exact ⟨.fz (.int _ _), rfl⟩
  · exact ⟨.fz (.bool _), rfl⟩
  · exact ⟨.fz (.str _), rfl⟩
  · exact ⟨.fz .nilp, rfl⟩
  · exact ⟨.nils _, rfl⟩
theorem csts_ok : ∀ {vs : List Value} {l : List LV}, csts vs = some l → l.length = vs.length ∧ (∀ v ∈ vs, v.oneCell' = true) ∧ ∀ (j : Nat) (e : LV) (v : Value), l[j]? = some e → vs[j]? = some v → RepL W S ρ h e v
  | [], l, e => by
    simp only [csts] at e; cases e
    exact ⟨rfl, fun _ h => (by cases h), fun j e v he _ => by simp at he⟩
  | v :: r, l, e => by
    simp only [csts] at e
    split at e <;> cases e
    rename_i x l' h1 h2
    obtain ⟨a, b, c⟩ := csts_ok h2
    obtain ⟨d1, d2⟩ := cst1_ok (W := W) (S := S) (ρ := ρ) (h := h) h1
    refine ⟨by simp [a], fun u hu => ?_, fun j e v he hv => ?_⟩
    · rcases List.mem_cons.1 hu with rfl | hu
      · exact d2
      · exact b u hu
    · cases j with
      | zero => simp at he hv; subst he; subst hv; exact d1
      | succ j => exact c j e v (by simpa using he) (by simpa using hv)
theorem allFz_map : ∀ {cs : List LV}, allFz cs = true → cs = (cs.map LV.toFz).map LV.fz
  | [], _ => rfl
  | c :: r, e => by
    cases c <;> simp only [allFz] at e <;> try cases e
    simp only [List.map_cons, LV.toFz]
    rw [← allFz_map e]
theorem mkAg_ok {cs : List LV} {vs : Array Value} (hl : vs.size = cs.length) (h1 : ∀ (j : Nat) (v : Value), vs[j]? = some v → v.oneCell' = true)
    (hh : ∀ (j : Nat) (e : LV) (v : Value), cs[j]? = some e → vs[j]? = some v → RepL W S ρ h e v) : RepL W S ρ h (mkAg cs) (.agg vs) := by
  unfold mkAg
  split
  · rename_i hf
    refine .fz (.ag _ vs (by simpa using hl) h1 (fun j e v he hv => ?_))
    have hm := allFz_map hf
    rw [List.getElem?_map] at he
    obtain ⟨c, hc, rfl⟩ := Option.map_eq_some_iff.1 he
    have h2 := hh j c v hc hv
    have : c = .fz c.toFz := by
      have h3 : ((cs.map LV.toFz).map LV.fz)[j]? = some c := by rw [← hm]; exact hc
      rw [List.getElem?_map, List.getElem?_map, hc] at h3
      simpa using h3.symm
    rw [this] at h2
    cases h2 with
    | fz r => exact r
  · exact .ag cs vs hl h1 hh
theorem mkAg_fits {cs : List LV} {n : Nat} (hl : cs.length = n) : lfits n true (mkAg cs) = true := by
  unfold mkAg
  split
  · simp [lfits, FV.fits, FV.isAg, hl]
  · simp [lfits, hl]
theorem cst_ok {v : Value} {l : LV} (e : cst v = some l) : RepL W S ρ h l v := by
  unfold cst at e
  split at e
  · rename_i vs
    obtain ⟨cs, hc, rfl⟩ := Option.map_eq_some_iff.1 e
    obtain ⟨a, b, c⟩ := csts_ok (W := W) (S := S) (ρ := ρ) (h := h) hc
    refine mkAg_ok (by simpa using a.symm) (fun j v hv => b v ?_) (fun j e v he hv => c j e v he (by simpa using hv))
    exact List.mem_of_getElem? (by simpa using hv : vs.toList[j]? = some v)
  · exact (cst1_ok e).1
structure AggRep (W : World) (S : Nat → Prop) (ρ : Nat → Place) (h : Heap) (n : Nat) (cs : List LV) (vs : Array Value) : Prop where
  len : cs.length = n
  size : vs.size = n
  one : ∀ (j : Nat) (v : Value), vs[j]? = some v → v.oneCell' = true
  rep : ∀ (j : Nat) (e : LV) (v : Value), cs[j]? = some e → vs[j]? = some v → RepL W S ρ h e v
theorem isAg_iff {e : FV} {n : Nat} (h : e.isAg n = true) : ∃ cs, e = .ag cs ∧ cs.length = n := by
  cases e <;> simp_all [FV.isAg]
theorem cell_get {cs : List FV} {j : Nat} {x : FV} (h : cs[j]? = some x) : (FV.ag cs).cell j = x := by
  simp [FV.cell, List.getD, h]
theorem exps_ok {β : Type} {n : Nat} {v : LV} {x : Value} {K : List LV → Option β} {r : β} (hr : RepL W S ρ h v x) (e : exps n v K = some r) :
    ∃ cs vs, K cs = some r ∧ x = .agg vs ∧ AggRep W S ρ h n cs vs := by
  unfold exps at e
  split at e
  · rename_i cs
    obtain ⟨hl, e⟩ := when_some e
    have hl := beq_iff_eq.1 hl
    cases hr with
    | ag _ vs hvl h1 hh => exact ⟨cs, vs, e, rfl, hl, hvl.trans hl, h1, hh⟩
  · rename_i fe
    obtain ⟨hl, e⟩ := when_some e
    obtain ⟨cs, rfl, hl2⟩ := isAg_iff hl; replace hl := hl2; clear hl2
    cases hr with
    | fz r =>
    cases r with
    | ag _ vs hvl h1 hh =>
      refine ⟨_, vs, e, rfl, by simp, hvl.trans hl, h1, fun j c v hc hv => ?_⟩
      obtain ⟨hj, rfl⟩ := range_get hc
      have hx : cs[j]? = some (cs[j]'(by omega)) := List.getElem?_eq_getElem (by omega)
      rw [cell_get hx]
      exact .fz (hh j _ v hx hv)
  · cases e
theorem part_ok {β : Type} {m n : Nat} {agg : Bool} {off : Nat} {v : LV} {x : Value} {K : LV → Option β} {r : β} (hr : RepL W S ρ h v x) (e : part m n agg off v K = some r) :
    ∃ u vs, K u = some r ∧ x = .agg vs ∧ vs.size = m ∧ (∀ (j : Nat) (v : Value), vs[j]? = some v → v.oneCell' = true) ∧
      (match agg with | true => off + n ≤ m ∧ RepL W S ρ h u (.agg (vs.extract off (off + n))) | false => ∃ y, vs[off]? = some y ∧ RepL W S ρ h u y) := by
  unfold part at e
  split at e
  · rename_i cs
    obtain ⟨hl, e⟩ := when_some e
    have hl := beq_iff_eq.1 hl
    cases hr with
    | ag _ vs hvl h1 hh =>
      split at e
      · obtain ⟨hle, e⟩ := when_some e
        have hle : off + n ≤ m := Nat.le_of_ble_eq_true hle
        refine ⟨_, vs, e, rfl, hvl.trans hl, h1, hle, mkAg_ok ?_ (fun j v hv => ?_) (fun j c v hc hv => ?_)⟩
        · simp; omega
        · rw [Array.getElem?_extract] at hv
          split at hv
          · exact h1 _ v hv
          · cases hv
        · rw [Array.getElem?_extract] at hv
          split at hv
          · rw [List.getElem?_take] at hc
            split at hc
            · rw [List.getElem?_drop] at hc
              exact hh _ c v hc hv
            · cases hc
          · cases hv
      · split at e
        · rename_i c hc
          have ho : off < vs.size := by have := (List.getElem?_eq_some_iff.1 hc).1; omega
          exact ⟨c, vs, e, rfl, hvl.trans hl, h1, vs[off], Array.getElem?_eq_getElem ho, hh off c _ hc (Array.getElem?_eq_getElem ho)⟩
        · cases e
  · rename_i fe
    obtain ⟨hl, e⟩ := when_some e
    obtain ⟨cs, rfl, hl2⟩ := isAg_iff hl; replace hl := hl2; clear hl2
    cases hr with
    | fz r =>
    cases r with
    | ag _ vs hvl h1 hh =>
      split at e
      · obtain ⟨hle, e⟩ := when_some e
        have hle : off + n ≤ m := Nat.le_of_ble_eq_true hle
        refine ⟨_, vs, e, rfl, hvl.trans hl, h1, hle, .fz (.ag _ _ ?_ (fun j v hv => ?_) (fun j c v hc hv => ?_))⟩
        · simp; omega
        · rw [Array.getElem?_extract] at hv
          split at hv
          · exact h1 _ v hv
          · cases hv
        · rw [Array.getElem?_extract] at hv
          obtain ⟨hj, rfl⟩ := range_get hc
          split at hv
          · have hx : cs[off + j]? = some (cs[off + j]'(by omega)) := List.getElem?_eq_getElem (by omega)
            rw [cell_get hx]
            exact hh _ _ v hx hv
          · cases hv
      · obtain ⟨hlt, e⟩ := when_some e
        have hlt : off < m := by simpa using hlt
        have ho : off < vs.size := by omega
        have hx : cs[off]? = some (cs[off]'(by omega)) := List.getElem?_eq_getElem (by omega)
        refine ⟨_, vs, e, rfl, hvl.trans hl, h1, vs[off], Array.getElem?_eq_getElem ho, ?_⟩
        rw [cell_get hx]
        exact .fz (hh off _ _ hx (Array.getElem?_eq_getElem ho))
  · cases e
def splice (vs : Array Value) (off : Nat) (ds : Array Value) : Array Value := (vs.toList.take off ++ ds.toList ++ vs.toList.drop (off + ds.size)).toArray
theorem splice_size {vs ds : Array Value} {off : Nat} (h : off + ds.size ≤ vs.size) : (splice vs off ds).size = vs.size := by
  simp [splice]; omega
theorem splice_get {vs ds : Array Value} {off : Nat} (h : off + ds.size ≤ vs.size) (j : Nat) : (splice vs off ds)[j]? = if j < off then vs[j]? else if j < off + ds.size then ds[j - off]? else vs[j]? := by
  simp only [splice, List.getElem?_toArray]
  by_cases h1 : j < off
  · rw [if_pos h1, List.append_assoc, List.getElem?_append_left (by simp; omega), List.getElem?_take, if_pos h1]
    simp
  · rw [if_neg h1, List.append_assoc, List.getElem?_append_right (by simp; omega)]
    have hl : (vs.toList.take off).length = off := by simp; omega
    rw [hl]
    by_cases h2 : j < off + ds.size
    · rw [if_pos h2, List.getElem?_append_left (by simp; omega)]
      simp
    · rw [if_neg h2, List.getElem?_append_right (by simp; omega), List.getElem?_drop]
      simp
      congr 1
      omega
theorem RepL.one {v : LV} {x : Value} (hr : RepL W S ρ h v x) (hv : lfits 1 false v = true) : x.oneCell' = true := by
  cases hr with
  | fz r => simp only [lfits] at hv; exact r.one (fits_one hv).2.1
  | nils => rfl
  | rw _ _ _ _ _ h1 => exact h1
  | loc _ _ _ _ _ _ _ h1 _ => exact h1
  | ptr _ _ _ _ _ _ _ _ h1 => exact h1
  | ag _ _ _ _ _ => simp [lfits] at hv
  | tup _ _ _ _ => simp [lfits] at hv
  | clo _ _ _ _ _ => rfl
theorem cells_one {x : Value} (h : x.oneCell' = true) : x.cells = #[x] := by cases x <;> simp_all [Value.cells, Value.oneCell']
theorem lfits_cells {n : Nat} {agg : Bool} {v : LV} {x : Value} (hf : lfits n agg v = true) (hr : RepL W S ρ h v x) :
    x.cells.size = n ∧ (∀ (j : Nat) (u : Value), x.cells[j]? = some u → u.oneCell' = true) ∧ x = loaded n agg (fun j => x.cells.getD j undef) := by
  cases agg with
  | true =>
    have : ∃ vs, x = .agg vs ∧ vs.size = n ∧ ∀ (j : Nat) (u : Value), vs[j]? = some u → u.oneCell' = true := by
      cases hr with
      | fz r =>
        obtain ⟨cs, rfl, hl⟩ := fits_agg hf
        cases r with
        | ag _ vs hvl h1 _ => exact ⟨vs, rfl, hvl.trans hl, h1⟩
      | ag cs vs hvl h1 _ => simp [lfits] at hf; exact ⟨vs, rfl, hvl.trans hf, h1⟩
      | nils => simp [lfits] at hf
      | rw _ _ _ _ _ h1 => simp [lfits] at hf
      | loc _ _ _ _ _ _ _ h1 _ => simp [lfits] at hf
      | ptr _ _ _ _ _ _ _ _ h1 => simp [lfits] at hf
      | tup _ _ _ _ => simp [lfits] at hf
      | clo _ _ _ _ _ => simp [lfits] at hf
    obtain ⟨vs, rfl, hs, h1⟩ := this
    refine ⟨hs, h1, ?_⟩
    simp only [loaded, Value.cells]
    congr 1
    apply Array.ext
    · simp [hs]
    · intro i hi hi'
      simp [Array.getD, hi]
  | false =>
    have hn : n = 1 := by
      cases v <;> simp [lfits, FV.fits] at hf <;> first | exact hf.1 | exact hf
    subst hn
    have h1 := hr.one hf
    have hc := cells_one h1
    rw [hc]
    refine ⟨rfl, fun j u hu => ?_, by simp [loaded]⟩
    cases j with
    | zero => simp at hu; subst hu; exact h1
    | succ j => simp at hu
theorem putPart_ok {β : Type} {m n : Nat} {agg : Bool} {off : Nat} {v y : LV} {x z : Value} {K : LV → Option β} {r : β} (hn : agg = false → n = 1) (hr : RepL W S ρ h v x) (hy : RepL W S ρ h y z) (e : putPart m n agg off v y K = some r) :
    ∃ u vs, K u = some r ∧ x = .agg vs ∧ vs.size = m ∧ off + n ≤ m ∧ z.cells.size = n ∧ (∀ (j : Nat) (u : Value), z.cells[j]? = some u → u.oneCell' = true) ∧
      lfits m true u = true ∧ RepL W S ρ h u (.agg (splice vs off z.cells)) ∧ lfits n agg y = true := by
  have setCase : ∀ (cs : List LV) (vs : Array Value), AggRep W S ρ h m cs vs → off < m → lfits 1 false y = true → RepL W S ρ h (mkAg (cs.set off y)) (.agg (splice vs off z.cells)) := by
    intro cs vs A ho hf
    have h1 := hy.one hf
    have hc := cells_one h1
    have hsz : off + z.cells.size ≤ vs.size := by rw [hc, A.size]; exact ho
    refine mkAg_ok ?_ (fun j u hu => ?_) (fun j c u hc' hu => ?_)
    · rw [splice_size hsz, A.size, List.length_set, A.len]
    · rw [splice_get hsz] at hu
      split at hu
      · exact A.one j u hu
      · split at hu
        · rw [hc] at hu
          have hj : j - off = 0 := by rw [hc] at *; simp at *; omega
          rw [hj] at hu; simp at hu; subst hu; exact h1
        · exact A.one j u hu
    · rw [splice_get hsz] at hu
      rw [hc] at hu
      by_cases hj : j = off
      · subst hj
        rw [List.getElem?_set_self (by rw [A.len]; exact ho)] at hc'
        cases hc'
        simp at hu; subst hu; exact hy
      · rw [List.getElem?_set_ne (fun e => hj e.symm)] at hc'
        refine A.rep j c u hc' ?_
        split at hu
        · exact hu
        · rw [if_neg (by simp; omega)] at hu
          exact hu
  unfold putPart at e
  split at e
  · obtain rfl := hn rfl
    split at e
    · rename_i fe fy
      obtain ⟨hb, e⟩ := when_some e
      obtain ⟨hlt, e⟩ := when_some e
      simp only [Bool.and_eq_true] at hb
      have hlt : off < m := by simpa using hlt
      obtain ⟨cs, rfl, hl⟩ := isAg_iff hb.1
      have hf1 : lfits 1 false (.fz fy) = true := hb.2
      have h1 := hy.one hf1
      cases hr with
      | fz r =>
      cases r with
      | ag _ vs hvl hv1 hh =>
        have A : AggRep W S ρ h m (cs.map .fz) vs := ⟨by simpa using hl, hvl.trans hl, hv1, fun j c v hc hv => by
          rw [List.getElem?_map] at hc
          obtain ⟨c', hc', rfl⟩ := Option.map_eq_some_iff.1 hc
          exact .fz (hh j c' v hc' hv)⟩
        have R := setCase _ vs A hlt hf1
        have hmk : mkAg ((cs.map LV.fz).set off (.fz fy)) = .fz (.ag (cs.set off fy)) := by
          have he : (cs.map LV.fz).set off (.fz fy) = (cs.set off fy).map .fz := by rw [List.map_set]
          have hall : ∀ l : List FV, allFz (l.map LV.fz) = true := by
            intro l; induction l with
            | nil => rfl
            | cons a l ih => simpa [allFz] using ih
          have hback : ∀ l : List FV, (l.map LV.fz).map LV.toFz = l := by
            intro l; induction l with
            | nil => rfl
            | cons a l ih => rw [List.map_cons, List.map_cons, ih]; rfl
          unfold mkAg
          rw [he, hall, hback]
        rw [hmk] at R
        refine ⟨_, vs, e, rfl, hvl.trans hl, by omega, by rw [cells_one h1]; rfl, fun j u hu => ?_, by simp [lfits, FV.fits, FV.isAg, FV.toAg, hl], R, hf1⟩
        rw [cells_one h1] at hu
        cases j with
        | zero => simp at hu; subst hu; exact h1
        | succ j => simp at hu
    · have fin : ∀ (hf1 : lfits 1 false y = true) (e : exps m v (fun cs => when (Nat.blt off m) (K (mkAg (cs.set off y)))) = some r),
          ∃ u vs, K u = some r ∧ x = .agg vs ∧ vs.size = m ∧ off + 1 ≤ m ∧ z.cells.size = 1 ∧ (∀ (j : Nat) (u : Value), z.cells[j]? = some u → u.oneCell' = true) ∧ lfits m true u = true ∧ RepL W S ρ h u (.agg (splice vs off z.cells)) ∧ lfits 1 false y = true := fun hf1 e => by
        obtain ⟨cs, vs, e, rfl, A⟩ := exps_ok hr e
        obtain ⟨hlt, e⟩ := when_some e
        have hlt : off < m := by simpa using hlt
        have h1 := hy.one hf1
        refine ⟨_, vs, e, rfl, A.size, by omega, by rw [cells_one h1]; rfl, fun j u hu => ?_, mkAg_fits (by rw [List.length_set, A.len]), setCase cs vs A hlt hf1, hf1⟩
        rw [cells_one h1] at hu
        cases j with
        | zero => simp at hu; subst hu; exact h1
        | succ j => simp at hu
      split at e
      · cases e
      · cases e
      · obtain ⟨hb, e⟩ := when_some e
        exact fin hb e
      · rename_i h1 h2 h3
        refine fin ?_ e
        cases y <;> simp_all [lfits]
  · obtain ⟨cs, vs, e, rfl, A⟩ := exps_ok hr e
    have hy0 := e
    obtain ⟨ds, ws, e, rfl, D⟩ := exps_ok hy e
    obtain ⟨hle, e⟩ := when_some e
    have hle : off + n ≤ m := Nat.le_of_ble_eq_true hle
    have hyf : lfits n true y = true := by
      unfold exps at hy0
      split at hy0
      · obtain ⟨hl, _⟩ := when_some hy0
        simpa [lfits] using hl
      · obtain ⟨hl, _⟩ := when_some hy0
        simpa [lfits, FV.fits] using hl
      · cases hy0
    have hsz : off + ws.size ≤ vs.size := by rw [D.size, A.size]; exact hle
    refine ⟨_, vs, e, rfl, A.size, hle, D.size, D.one, mkAg_fits (by simp [A.len, D.len]; omega), mkAg_ok ?_ (fun j u hu => ?_) (fun j c u hc hu => ?_), hyf⟩
    · simp only [Value.cells]; rw [splice_size hsz]; simp [A.len, D.len, A.size]; omega
    · simp only [Value.cells] at hu
      rw [splice_get hsz] at hu
      split at hu
      · exact A.one j u hu
      · split at hu
        · exact D.one _ u hu
        · exact A.one j u hu
    · simp only [Value.cells] at hu
      rw [splice_get hsz, D.size] at hu
      have hlo : (cs.take off).length = off := by simp [A.len]; omega
      by_cases h1 : j < off
      · rw [if_pos h1] at hu
        rw [List.append_assoc, List.getElem?_append_left (by omega), List.getElem?_take, if_pos h1] at hc
        exact A.rep j c u hc hu
      · rw [if_neg h1] at hu
        rw [List.append_assoc, List.getElem?_append_right (by omega), hlo] at hc
        by_cases h2 : j < off + n
        · rw [if_pos h2] at hu
          rw [List.getElem?_append_left (by rw [D.len]; omega)] at hc
          exact D.rep _ c u hc hu
        · rw [if_neg h2] at hu
          rw [List.getElem?_append_right (by rw [D.len]; omega), List.getElem?_drop, D.len] at hc
          refine A.rep j c u ?_ hu
          rw [← hc]; congr 1; omega
end
end Go.Ab
end
section
namespace Go.Ab
def OpRes (P : Program) (o : Oper) (a : Act) (W : World) (Φ : Value → World → Prop) : Prop :=
  match (execOp a.eval o).run P W with
  | .ok (.value x) W' => Φ x W'
  | .ok .skip W' => Φ undef W'
  | .ok (.enter f args) W' => Calls P f args W' fun
    | .returned x, W'' => Φ x W''
    | _, _ => False
  | _ => False
theorem OpRes.wp {P : Program} {o : Oper} {a : Act} {W : World} {Φ : Value → World → Prop} {next : Act → World → Prop} {Q : Exit → Act → World → Prop} (r : OpRes P o a W Φ) (hn : ∀ x W', Φ x W' → next (a.put o.dst x) W') : o.wp P a W next Q := by
  unfold OpRes at r
  unfold Oper.wp
  generalize (execOp a.eval o).run P W = res at *
  cases res with
  | halt h w => exact r.elim
  | ok n w =>
    cases n <;> simp only [Oper.upon] <;> try exact r.elim
    · exact hn _ _ r
    · exact hn _ _ r
    · refine Calls.mono r fun e w' he => ?_
      cases e with
      | returned x => exact hn _ _ he
      | panicked c => exact he.elim
      | outgrown => exact he.elim
def EInv (W : World) (S : Nat → Prop) (ρ : Nat → Place) (h : Heap) (env : List (Nat × LV)) (a : Act) : Prop :=
  ∀ t v, aget t env = some v → ∃ x, a.tmps[t]? = some x ∧ RepL W S ρ h v x
section
variable {P : Program} {W0 W : World} {S0 M S : Nat → Prop} {ρ : Nat → Place} {st : St} {a : Act} {β : Type} {r : β}
theorem ev_ok {x : Operand} {y : Opnd} {K : LV → Option β} (E : EInv W S ρ st.heap st.env a) (hx : opn x = some y) (e : ev st y K = some r) : ∃ v, K v = some r ∧ RepL W S ρ st.heap v (a.eval x) := by
  cases x with
  | tmp t =>
    cases hx
    simp only [ev] at e
    split at e
    · rename_i v hv
      obtain ⟨x, hx, R⟩ := E t v hv
      refine ⟨v, e, ?_⟩
      simpa [Act.eval, hx] using R
    · cases e
  | const v =>
    obtain ⟨l, hl, rfl⟩ := Option.map_eq_some_iff.1 hx
    exact ⟨l, e, cst_ok hl⟩
  | func f =>
    cases hx
    exact ⟨_, e, .clo f [] #[] rfl (fun j e v he _ => by simp at he)⟩
  | global g => cases hx
theorem getI_ok {k : IntKind} {v : LV} {x : Value} {K : Int → Option β} (R : RepL W S ρ st.heap v x) (e : getI k v K = some r) : ∃ n, x = .int k n ∧ K n = some r := by
  replace e := when_some e
  obtain ⟨hb, e⟩ := e
  cases R with
  | fz R => cases R with
    | int k' n => (have h2 : k' = k := by simpa [LV.isInt, FV.isInt] using hb
                   subst h2; exact ⟨n, rfl, e⟩)
    | _ => simp [LV.isInt, FV.isInt] at hb
  | _ => simp [LV.isInt] at hb
theorem getN_ok {v : LV} {x : Value} {K : Int → Option β} (R : RepL W S ρ st.heap v x) (e : getN v K = some r) : ∃ k n, x = .int k n ∧ K n = some r := by
  replace e := when_some e
  obtain ⟨hb, e⟩ := e
  cases R with
  | fz R => cases R with
    | int k n => exact ⟨k, n, rfl, e⟩
    | _ => simp [LV.isNum, FV.isNum] at hb
  | _ => simp [LV.isNum] at hb
theorem getB_ok {v : LV} {x : Value} {K : Bool → Option β} (R : RepL W S ρ st.heap v x) (e : getB v K = some r) : ∃ b, x = .bool b ∧ K b = some r := by
  replace e := when_some e
  obtain ⟨hb, e⟩ := e
  cases R with
  | fz R => cases R with
    | bool b => exact ⟨b, rfl, e⟩
    | _ => simp [LV.isBool, FV.isBool] at hb
  | _ => simp [LV.isBool] at hb
theorem getS_ok {v : LV} {x : Value} {K : ByteArray → Option β} (R : RepL W S ρ st.heap v x) (e : getS v K = some r) : ∃ s, x = .string s ∧ K s = some r := by
  replace e := when_some e
  obtain ⟨hb, e⟩ := e
  cases R with
  | fz R => cases R with
    | str s => exact ⟨s, rfl, e⟩
    | _ => simp [LV.isStr, FV.isStr] at hb
  | _ => simp [LV.isStr] at hb
def Good (P : Program) (W0 : World) (S0 M : Nat → Prop) (o : Oper) (a : Act) (W : World) (S : Nat → Prop) (ρ : Nat → Place) (st : St) (K : LV → St → Option β) (r : β) : Prop :=
  ∃ v st', K v st' = some r ∧ st'.env = st.env ∧
    OpRes P o a W fun x W' => ∃ S' ρ', HInv W0 S0 M W' S' ρ' st'.heap ∧ Later W S ρ st.heap W' S' ρ' st'.heap ∧ RepL W' S' ρ' st'.heap v x
theorem good_pure {o : Oper} {K : LV → St → Option β} {v : LV} {x : Value} (I : HInv W0 S0 M W S ρ st.heap) (e : K v st = some r) (hx : (execOp a.eval o).run P W = .ok (.value x) W) (R : RepL W S ρ st.heap v x) : Good P W0 S0 M o a W S ρ st K r :=
  ⟨v, st, e, rfl, by unfold OpRes; rw [hx]; exact ⟨S, ρ, I, Later.refl _ _ _ _, R⟩⟩
theorem szOf_run {t : TypeId} {n : Nat} {agg : Bool} (h : szOf P t = some (n, agg)) (W : World) : (sizeOf t).run P W = .ok n W ∧ (isAgg t).run P W = .ok agg W ∧ (agg = false → n = 1) := by
  unfold szOf at h
  split at h
  · rename_i i fs hi hu; cases h
    exact ⟨by simp [sizeOf, typeInfo, hi], by simp [isAgg, run_underlying hu], fun h => by cases h⟩
  · rename_i i m e hi hu; cases h
    exact ⟨by simp [sizeOf, typeInfo, hi], by simp [isAgg, run_underlying hu], fun h => by cases h⟩
  · rename_i i d hn1 hn2 hi hu
    split at h
    · rename_i hs
      cases h
      refine ⟨by simp [sizeOf, typeInfo, hi, hs], ?_, fun _ => rfl⟩
      simp only [isAgg, Sem.run_bind, run_underlying hu, Result.andThen_ok]
      cases d <;> first | rfl | exact absurd rfl (hn1 _) | exact absurd rfl (hn2 _ _)
    · cases h
  · cases h
theorem load_run {t : TypeId} {n : Nat} {agg : Bool} (h : szOf P t = some (n, agg)) {B o : Nat} {g : Nat → Value} (hc : ∀ j, j < n → W.cell? ⟨B, o + j, none⟩ = some (g j)) :
    (loadVar t ⟨B, o, none⟩).run P W = .ok (loaded n agg g) W := by
  obtain ⟨h1, h2, h3⟩ := szOf_run h W
  cases agg with
  | true =>
    have hl := run_loadCells (P := P) W ⟨B, o, none⟩ n g (fun j hj => by rw [Addr.add_lit]; exact hc j hj)
    simp [loadVar, h1, h2, hl, loaded]
  | false =>
    obtain rfl := h3 rfl
    have := hc 0 (by omega)
    simp only [Nat.add_zero] at this
    simp [loadVar, h2, loaded, this]
theorem store_run {t : TypeId} {n : Nat} {agg : Bool} (h : szOf P t = some (n, agg)) {B o : Nat} {v : Value} (hs : v.cells.size = n) (hc : ∀ j, j < n → (W.cell? ⟨B, o + j, none⟩).isSome = true)
    (hf : ∀ j, j < n → W.frozen? ⟨B, o + j, none⟩ = false) (h1 : ∀ (j : Nat) (u : Value), v.cells[j]? = some u → u.oneCell' = true) :
    (storeVar t ⟨B, o, none⟩ v).run P W = .ok () (W.setCells B o v.cells.toList) := by
  obtain ⟨s1, s2, s3⟩ := szOf_run h W
  have hst := run_storeCells_cells (P := P) B o v.cells.toList 0 W (fun j hj => by simpa using hc j (by simpa [hs] using hj)) (fun j hj => by simpa using hf j (by simpa [hs] using hj))
    (fun u hu => by obtain ⟨j, hj⟩ := List.getElem?_of_mem hu; exact h1 j u (by simpa using hj))
  simp only [Nat.add_zero] at hst
  simp [storeVar, s1, hs, hst]
theorem setCells_size (B : Nat) : ∀ (vs : List Value) (o : Nat) (W : World), (W.setCells B o vs).heap.size = W.heap.size ∧ (W.setCells B o vs).os = W.os ∧ (W.setCells B o vs).tape = W.tape ∧ (W.setCells B o vs).output = W.output
  | [], _, _ => ⟨rfl, rfl, rfl, rfl⟩
  | v :: r, o, W => by
    obtain ⟨h1, h2, h3, h4⟩ := setCells_size B r (o + 1) (W.setCell ⟨B, o, none⟩ v)
    exact ⟨h1.trans (by simp [World.setCell]), h2, h3, h4⟩
theorem setCells_block (B : Nat) : ∀ (vs : List Value) (o : Nat) (W : World) (b : Nat), b ≠ B → (W.setCells B o vs).heap[b]? = W.heap[b]?
  | [], _, _, _, _ => rfl
  | v :: r, o, W, b, hb => (setCells_block B r (o + 1) _ b hb).trans (RowKit.Below.heap_setCell W ⟨B, o, none⟩ v b hb)
theorem setCells_poke (W : World) (B o : Nat) (vs : List Value) : Poke W (fun b => b = B) (W.setCells B o vs) := by
  obtain ⟨h1, h2, h3, h4⟩ := setCells_size B vs o W
  exact ⟨h2, h3, h4, Nat.le_of_eq h1.symm, fun b _ hb => setCells_block B vs o W b hb⟩
theorem setCells_get (W : World) (B o : Nat) (vs : List Value) (hc : ∀ j, j < vs.length → (W.cell? ⟨B, o + j, none⟩).isSome = true) (i : Nat) :
    (W.setCells B o vs).cell? ⟨B, i, none⟩ = if o ≤ i ∧ i < o + vs.length then vs[i - o]? else W.cell? ⟨B, i, none⟩ := by
  by_cases h : o ≤ i ∧ i < o + vs.length
  · rw [if_pos h]
    have := World.cell?_setCells_in B vs o W hc (i - o) (by omega)
    rw [show o + (i - o) = i by omega] at this
    rw [this, List.getElem?_eq_getElem (by omega)]
  · rw [if_neg h]
    exact World.cell?_setCells_out B vs o W ⟨B, i, none⟩ (fun _ _ => by simp; omega)
theorem isPt_iff {p : FV} (h : p.isPt = true) : ∃ n agg e off, p = .pt n agg e off := by cases p <;> simp_all [FV.isPt]
theorem extract_loaded {n m off : Nat} {g : Nat → Value} (h : off + n ≤ m) : (((List.range m).map g).toArray).extract off (off + n) = ((List.range n).map fun j => g (off + j)).toArray := by
  apply Array.ext
  · simp; omega
  · intro i h1 h2
    simp
theorem part_loaded {m n : Nat} {agg : Bool} {off : Nat} {v : LV} {g : Nat → Value} {K : LV → Option β} (hn : agg = false → n = 1) (hr : RepL W S ρ st.heap v (loaded m true g)) (e : part m n agg off v K = some r) :
    ∃ u, K u = some r ∧ off + n ≤ m ∧ RepL W S ρ st.heap u (loaded n agg fun j => g (off + j)) := by
  obtain ⟨u, vs, hk, hx, hs, h1, hm⟩ := part_ok hr e
  simp only [loaded] at hx
  cases hx
  cases agg with
  | true =>
    refine ⟨u, hk, hm.1, ?_⟩
    have h2 := hm.2
    rw [extract_loaded hm.1] at h2
    exact h2
  | false =>
    obtain rfl := hn rfl
    obtain ⟨y, hy, R⟩ := hm
    rw [List.getElem?_toArray] at hy
    obtain ⟨hj, rfl⟩ := range_get hy
    exact ⟨u, hk, by omega, R⟩
theorem rowLen_ok {b : Option Blk} {K : Nat → Bool → List FV → Option β} (e : rowLen b K = some r) : ∃ b' sz agg xs, b = some b' ∧ b'.rowOf = some (sz, agg, xs) ∧ K sz agg xs = some r := by
  unfold rowLen at e
  split at e
  · exact ⟨_, _, _, _, rfl, rfl, e⟩
  · exact ⟨_, _, _, _, rfl, rfl, e⟩
  · cases e
theorem RepB.row {p : Place} {b : Blk} {sz : Nat} {agg : Bool} {xs : List FV} (R : RepB W S ρ st.heap p b) (h : b.rowOf = some (sz, agg, xs)) : RowAt W S p sz agg xs := by
  cases b <;> simp only [Blk.rowOf] at h <;> cases h
  · exact R.2.1
  · exact R.2
theorem RowAt.elem {p : Place} {sz : Nat} {agg : Bool} {xs : List FV} (R : RowAt W S p sz agg xs) {i : Nat} (hi : i < xs.length) :
    ∃ g : Nat → Value, (∀ j, j < sz → W.cell? ⟨p.B, p.off + i * sz + j, none⟩ = some (g j)) ∧ (∀ j, j < sz → (g j).oneCell' = true) ∧ (xs.getD i .nilp).fits sz agg = true ∧
      (∀ (j : Nat) (x : FV), (xs.getD i .nilp).cells[j]? = some x → Rep W S x (g j)) := by
  obtain ⟨lt, len, fits, g, h1, h2, h3⟩ := R
  have hx : xs[i]? = some (xs.getD i .nilp) := by simp [List.getD, List.getElem?_eq_getElem hi]
  have hm : (i + 1) * sz ≤ xs.length * sz := Nat.mul_le_mul_right sz (by omega)
  have hm2 : xs.length * sz ≤ p.cap * sz := Nat.mul_le_mul_right sz len
  rw [Nat.add_mul, Nat.one_mul] at hm
  refine ⟨fun j => g (i * sz + j), fun j hj => ?_, fun j hj => h2 _ (by omega), fits _ (List.mem_of_getElem? hx), fun j x hj => h3 i _ j x hx hj⟩
  rw [Nat.add_assoc]
  exact h1 _ (by omega)
theorem load_core {t : TypeId} {x : Operand} {y : Opnd} {n : Nat} {agg : Bool} {K : LV → St → Option β} (I : HInv W0 S0 M W S ρ st.heap) (E : EInv W S ρ st.heap st.env a)
    (hz : szOf P t = some (n, agg)) (hx : opn x = some y) {R : Nat → List TV → Option Ans} {key : Nat} (e : stepI R key st (.load n agg y) K = some r) : ∃ v B off z, K v st = some r ∧ a.eval x = .pointer (some ⟨B, off, none⟩) ∧ (loadVar t ⟨B, off, none⟩).run P W = .ok z W ∧ RepL W S ρ st.heap v z := by
  simp only [stepI] at e
  replace e := ev_ok E hx e; obtain ⟨v, e, Rv⟩ := e
  have hagg := (szOf_run hz W).2.2
  split at e
  · rename_i p
    replace e := when_some e; obtain ⟨hp, e⟩ := e
    obtain ⟨pn, pagg, pe, poff, rfl⟩ := isPt_iff hp
    cases Rv with
    | fz Rv =>
    generalize hxv : a.eval x = xv at Rv
    cases Rv with
    | pt _ _ _ _ B base g hS hf hc h1 hh =>
    have RL : RepL W S ρ st.heap (.fz pe) (loaded pn pagg g) := .fz (rep_loaded hf h1 hh)
    split at e
    · rename_i hcond
      simp only [Bool.and_eq_true, beq_iff_eq, FV.ptN, FV.ptAgg, FV.ptOff] at hcond
      obtain ⟨rfl, rfl, rfl⟩ := hcond
      exact ⟨_, _, _, _, e, rfl, load_run hz (by simpa using hc), RL⟩
    · replace e := when_some e; obtain ⟨ha, e⟩ := e
      simp only [FV.ptAgg] at ha
      subst ha
      obtain ⟨u, hk, hle, Ru⟩ := part_loaded hagg RL e
      exact ⟨_, _, _, _, hk, rfl, load_run hz (fun j hj => by rw [Nat.add_assoc]; exact hc (poff + j) (by simp only [FV.ptN, FV.ptOff] at hle; omega)), Ru⟩
  · rename_i k i off
    cases Rv with
    | ptr _ _ _ _ b hb hv hu h1 =>
    split at e
    · rename_i m agg' v hb'
      rw [hb] at hb'; cases hb'
      replace e := when_some e; obtain ⟨hi, e⟩ := e
      obtain ⟨rfl, hp⟩ := hu _ _ rfl
      have RB := I.blk k _ hb
      obtain ⟨hnS, hoff, V, _⟩ := RB
      obtain ⟨g, hc, h1', RL⟩ := V.cells
      rw [hoff] at hp
      split at e
      · rename_i hcond
        simp only [Bool.and_eq_true, beq_iff_eq] at hcond
        obtain ⟨rfl, rfl, rfl⟩ := hcond
        exact ⟨_, _, _, _, e, hp, load_run hz (by simpa using hc), RL⟩
      · replace e := when_some e; obtain ⟨ha, e⟩ := e
        subst ha
        obtain ⟨u, hk, hle, Ru⟩ := part_loaded hagg RL e
        exact ⟨_, _, _, _, hk, hp, load_run hz (fun j hj => by have := hc (off + j) (by omega); simpa [Nat.add_assoc] using this), Ru⟩
    · rename_i m agg' v hb'
      rw [hb] at hb'; cases hb'
      replace e := when_some e; obtain ⟨hi, e⟩ := e
      obtain ⟨rfl, hp⟩ := hu _ _ rfl
      have RB := I.blk k _ hb
      obtain ⟨hnS, hoff, V⟩ := RB
      obtain ⟨g, hc, h1', RL0⟩ := V.cells
      have RL : RepL W S ρ st.heap (.fz v) (loaded m agg' g) := by cases RL0 with | fz R => exact .fz R
      rw [hoff] at hp
      split at e
      · rename_i hcond
        simp only [Bool.and_eq_true, beq_iff_eq] at hcond
        obtain ⟨rfl, rfl, rfl⟩ := hcond
        exact ⟨_, _, _, _, e, hp, load_run hz (by simpa using hc), RL⟩
      · replace e := when_some e; obtain ⟨ha, e⟩ := e
        subst ha
        obtain ⟨u, hk, hle, Ru⟩ := part_loaded hagg RL e
        exact ⟨_, _, _, _, hk, hp, load_run hz (fun j hj => by have := hc (off + j) (by omega); simpa [Nat.add_assoc] using this), Ru⟩
    · replace e := rowLen_ok e; obtain ⟨b', sz, agg', xs, hb', hrow, e⟩ := e
      rw [hb] at hb'; cases hb'
      replace e := when_some e; obtain ⟨hi, e⟩ := e
      have hi : i < xs.length := by simpa using hi
      have hp := hv _ _ _ hrow
      obtain ⟨g, hc, h1', hf, hh⟩ := (I.blk k _ hb).row hrow |>.elem hi
      have RL : RepL W S ρ st.heap (.fz (xs.getD i .nilp)) (loaded sz agg' g) := .fz (rep_loaded hf h1' hh)
      split at e
      · rename_i hcond
        simp only [Bool.and_eq_true, beq_iff_eq] at hcond
        obtain ⟨rfl, rfl, rfl⟩ := hcond
        exact ⟨_, _, _, _, e, hp, load_run hz (by simpa using hc), RL⟩
      · replace e := when_some e; obtain ⟨ha, e⟩ := e
        subst ha
        obtain ⟨u, hk, hle, Ru⟩ := part_loaded hagg RL e
        exact ⟨_, _, _, _, hk, hp, load_run hz (fun j hj => by rw [Nat.add_assoc]; exact hc (off + j) (by omega)), Ru⟩
  · cases e
theorem load_good {o : Oper} {t : TypeId} {x : Operand} {y : Opnd} {n : Nat} {agg : Bool} {K : LV → St → Option β} (ho : o.op = .load t x) (I : HInv W0 S0 M W S ρ st.heap) (E : EInv W S ρ st.heap st.env a)
    (hz : szOf P t = some (n, agg)) (hx : opn x = some y) {R : Nat → List TV → Option Ans} {key : Nat} (e : stepI R key st (.load n agg y) K = some r) : Good P W0 S0 M o a W S ρ st K r := by
  obtain ⟨v, B, off, z, hk, hp, hl, Rv⟩ := load_core I E hz hx e
  exact good_pure I hk (by simp [execOp, ho, Instr.loadAt, Instr.sureAddr, hp, hl]) Rv
end
end Go.Ab
end
section
namespace Go.Ab
section
variable {P : Program} {W0 W : World} {S0 M S : Nat → Prop} {ρ : Nat → Place} {st : St} {a : Act} {β : Type} {r : β} {o : Oper} {K : LV → St → Option β} {key : Nat} {R : Nat → List TV → Option Ans}
theorem alive_ptr {k i off : Nat} {v : Value} (h : alive (aget k st.heap) = true) (Rv : RepL W S ρ st.heap (.ptr k i off) v) :
    ∃ off0, v = .pointer (some ⟨(ρ k).B, off0 + off, none⟩) ∧ ∀ off', RepL W S ρ st.heap (.ptr k i off') (.pointer (some ⟨(ρ k).B, off0 + off', none⟩)) := by
  cases Rv with
  | ptr _ _ _ _ b hb hv hu h1 =>
    rw [hb] at h
    cases b with
    | dead => cases h
    | itr s pos => cases h
    | icv n agg u =>
      obtain ⟨rfl, hv'⟩ := hu _ _ rfl
      exact ⟨(ρ k).off, hv', fun off' => .ptr _ _ _ _ _ hb (fun _ _ _ h => by cases h) (fun _ _ _ => ⟨rfl, rfl⟩) rfl⟩
    | var n agg u =>
      obtain ⟨rfl, hv'⟩ := hu _ _ rfl
      exact ⟨(ρ k).off, hv', fun off' => .ptr _ _ _ _ _ hb (fun _ _ _ h => by cases h) (fun _ _ _ => ⟨rfl, rfl⟩) rfl⟩
    | row sz agg xs =>
      exact ⟨_, hv _ _ _ rfl, fun off' => .ptr _ _ _ _ _ hb (fun _ _ _ h => by cases h; rfl) (fun _ _ h => by cases h) rfl⟩
    | ice sz agg xs =>
      exact ⟨_, hv _ _ _ rfl, fun off' => .ptr _ _ _ _ _ hb (fun _ _ _ h => by cases h; rfl) (fun _ _ h => by cases h) rfl⟩
theorem mov_good {x : Operand} {y : Opnd} (ho : o.op = .move x ∨ o.op = .assign x) (I : HInv W0 S0 M W S ρ st.heap) (E : EInv W S ρ st.heap st.env a) (hx : opn x = some y)
    (e : stepI R key st (.mov y) K = some r) : Good P W0 S0 M o a W S ρ st K r := by
  simp only [stepI] at e
  replace e := ev_ok E hx e; obtain ⟨v, e, Rv⟩ := e
  exact good_pure I e (by rcases ho with ho | ho <;> simp [execOp, ho]) Rv
theorem pick_good {c x y : Operand} {c' x' y' : Opnd} (ho : o.op = .pick c x y) (I : HInv W0 S0 M W S ρ st.heap) (E : EInv W S ρ st.heap st.env a) (hc : opn c = some c') (hx : opn x = some x') (hy : opn y = some y')
    (e : stepI R key st (.pick c' x' y') K = some r) : Good P W0 S0 M o a W S ρ st K r := by
  simp only [stepI] at e
  replace e := ev_ok E hc e; obtain ⟨v, e, Rv⟩ := e
  replace e := getB_ok Rv e; obtain ⟨b, hb, e⟩ := e
  cases b with
  | true =>
    replace e := ev_ok E hx e; obtain ⟨u, e, Ru⟩ := e
    exact good_pure I e (by simp [execOp, ho, hb, asBool]) Ru
  | false =>
    replace e := ev_ok E hy e; obtain ⟨u, e, Ru⟩ := e
    exact good_pure I e (by simp [execOp, ho, hb, asBool]) Ru
theorem intOp_ok {op : BinOp} {k : IntKind} {m n : Int} {K : FV → Option β} (e : intOp op k m n K = some r) (t : TypeId) (W : World) (x y : Operand) :
    ∃ f v, K f = some r ∧ Rep W S f v ∧ ((do eqGuard op t x y (.int k m) (.int k n); binOp op t (.int k m) (.int k n)) : Sem Value).run P W = .ok v W := by
  have guard : (eqGuard op t x y (.int k m) (.int k n)).run P W = .ok () W := by
    unfold eqGuard; split <;> simp
  cases op <;> simp only [intOp] at e
  case quo =>
    replace e := when_some e; obtain ⟨h0, e⟩ := e
    have h0 : n ≠ 0 := by simpa using h0
    exact ⟨_, _, e, .int _ _, by rw [Sem.run_bind, guard]; simp [binOp, Op.intDiv, h0]⟩
  case rem =>
    replace e := when_some e; obtain ⟨h0, e⟩ := e
    have h0 : n ≠ 0 := by simpa using h0
    exact ⟨_, _, e, .int _ _, by rw [Sem.run_bind, guard]; simp [binOp, Op.intDiv, h0]⟩
  case shl => cases e
  case shr => cases e
  all_goals first
    | (refine ⟨_, _, e, .int _ _, ?_⟩; rw [Sem.run_bind, guard]; simp [binOp, Op.intArith]; done)
    | (refine ⟨_, _, e, .int _ _, ?_⟩; rw [Sem.run_bind, guard]; simp only [Result.andThen_ok, binOp, ne_eq, not_true_eq_false, if_false]; rfl)
    | (refine ⟨_, _, e, .bool _, ?_⟩; rw [Sem.run_bind, guard]; simp [binOp, Op.intCmp]; done)
theorem binI_good {op : BinOp} {t yt : TypeId} {x y : Operand} {x' y' : Opnd} {k : IntKind} (ho : o.op = .binOp op t x y yt) (I : HInv W0 S0 M W S ρ st.heap) (E : EInv W S ρ st.heap st.env a) (hx : opn x = some x') (hy : opn y = some y')
    (e : stepI R key st (.binI op k x' y') K = some r) : Good P W0 S0 M o a W S ρ st K r := by
  simp only [stepI] at e
  replace e := ev_ok E hx e; obtain ⟨u, e, Ru⟩ := e
  replace e := ev_ok E hy e; obtain ⟨v, e, Rv⟩ := e
  replace e := getI_ok Ru e; obtain ⟨m, hm, e⟩ := e
  replace e := getI_ok Rv e; obtain ⟨n, hn, e⟩ := e
  obtain ⟨f, z, hk, Rz, hrun⟩ := intOp_ok (P := P) (S := S) e t W x y
  refine good_pure I hk ?_ (.fz Rz)
  simp only [execOp, ho, hm, hn]
  simp only [Sem.run_bind] at hrun ⊢
  rw [hrun]; rfl
theorem shft_good {op : BinOp} {t yt : TypeId} {x y : Operand} {x' y' : Opnd} {k yk : IntKind} (ho : o.op = .binOp op t x y yt) (I : HInv W0 S0 M W S ρ st.heap) (E : EInv W S ρ st.heap st.env a) (hx : opn x = some x') (hy : opn y = some y')
    (e : stepI R key st (.shft op k yk x' y') K = some r) : Good P W0 S0 M o a W S ρ st K r := by
  simp only [stepI] at e
  replace e := ev_ok E hx e; obtain ⟨u, e, Ru⟩ := e
  replace e := ev_ok E hy e; obtain ⟨v, e, Rv⟩ := e
  replace e := getI_ok Ru e; obtain ⟨m, hm, e⟩ := e
  replace e := getI_ok Rv e; obtain ⟨n, hn, e⟩ := e
  unfold shOp at e
  replace e := when_some e; obtain ⟨h0, e⟩ := e
  have h0 : ¬ n < 0 := by simpa using h0
  have guard : (eqGuard op t x y (.int k m) (.int yk n)).run P W = .ok () W := by
    unfold eqGuard; split <;> simp
  cases op <;> simp only [] at e <;> try cases e
  · exact good_pure I e (by simp [execOp, ho, hm, hn, guard, binOp, Op.shift, h0]) (.fz (.int _ _))
  · exact good_pure I e (by simp [execOp, ho, hm, hn, guard, binOp, Op.shift, h0]) (.fz (.int _ _))
theorem strOp_ok {op : BinOp} {m n : ByteArray} {K : FV → Option β} (e : strOp op m n K = some r) (t : TypeId) (W : World) (x y : Operand) :
    ∃ f v, K f = some r ∧ Rep W S f v ∧ ((do eqGuard op t x y (.string m) (.string n); binOp op t (.string m) (.string n)) : Sem Value).run P W = .ok v W := by
  have guard : (eqGuard op t x y (.string m) (.string n)).run P W = .ok () W := by
    unfold eqGuard; split <;> simp
  cases op <;> simp only [strOp] at e <;> try cases e
  case add =>
    replace e := when_some e; obtain ⟨h0, e⟩ := e
    have h0 : m.size + n.size ≤ 4611686018427387904 := by simpa using h0
    refine ⟨_, _, e, .str _, ?_⟩
    have hmax : IntKind.i64.max = 9223372036854775807 := by decide
    rw [Sem.run_bind, guard]
    simp only [Result.andThen_ok, binOp, Op.stringOp, hmax]
    rw [if_neg (by omega)]
    rfl
  all_goals exact ⟨_, _, e, .bool _, by rw [Sem.run_bind, guard]; simp [binOp, Op.stringOp]⟩
theorem binS_good {op : BinOp} {t yt : TypeId} {x y : Operand} {x' y' : Opnd} (ho : o.op = .binOp op t x y yt) (I : HInv W0 S0 M W S ρ st.heap) (E : EInv W S ρ st.heap st.env a) (hx : opn x = some x') (hy : opn y = some y')
    (e : stepI R key st (.binS op x' y') K = some r) : Good P W0 S0 M o a W S ρ st K r := by
  simp only [stepI] at e
  replace e := ev_ok E hx e; obtain ⟨u, e, Ru⟩ := e
  replace e := ev_ok E hy e; obtain ⟨v, e, Rv⟩ := e
  replace e := getS_ok Ru e; obtain ⟨m, hm, e⟩ := e
  replace e := getS_ok Rv e; obtain ⟨n, hn, e⟩ := e
  obtain ⟨f, z, hk, Rz, hrun⟩ := strOp_ok (P := P) (S := S) e t W x y
  refine good_pure I hk ?_ (.fz Rz)
  simp only [execOp, ho, hm, hn]
  simp only [Sem.run_bind] at hrun ⊢
  rw [hrun]; rfl
theorem binB_good {op : BinOp} {neg : Bool} (hop : op = (match neg with | true => .neq | false => .eql)) {t yt : TypeId} {x y : Operand} {x' y' : Opnd} (ho : o.op = .binOp op t x y yt) (ht : P.underlying t = some .bool) (I : HInv W0 S0 M W S ρ st.heap) (E : EInv W S ρ st.heap st.env a) (hx : opn x = some x') (hy : opn y = some y')
    (e : stepI R key st (.binB neg x' y') K = some r) : Good P W0 S0 M o a W S ρ st K r := by
  simp only [stepI] at e
  replace e := ev_ok E hx e; obtain ⟨u, e, Ru⟩ := e
  replace e := ev_ok E hy e; obtain ⟨v, e, Rv⟩ := e
  replace e := getB_ok Ru e; obtain ⟨m, hm, e⟩ := e
  replace e := getB_ok Rv e; obtain ⟨n, hn, e⟩ := e
  have guard : (eqGuard op t x y (.bool m) (.bool n)).run P W = .ok () W := by
    unfold eqGuard; split <;> simp
  refine good_pure I e ?_ (.fz (.bool _))
  cases neg <;> subst hop
  · simp [execOp, ho, hm, hn, guard, run_eql_bool W t m n ht]
  · simp [execOp, ho, hm, hn, guard, run_neq_bool W t m n ht]
theorem eqNil_good {op : BinOp} {neg : Bool} (hop : op = (match neg with | true => .neq | false => .eql)) {t yt e0 : TypeId} {x : Operand} {x' : Opnd} (ho : o.op = .binOp op t x (.const (.pointer none)) yt) (ht : P.underlying t = some (.pointer e0)) (I : HInv W0 S0 M W S ρ st.heap) (E : EInv W S ρ st.heap st.env a) (hx : opn x = some x')
    (e : stepI R key st (.eqNil neg x') K = some r) : Good P W0 S0 M o a W S ρ st K r := by
  simp only [stepI] at e
  replace e := ev_ok E hx e; obtain ⟨u, e, Ru⟩ := e
  have hp : P.underlying t = some (.pointer (P.pointee t)) := by simp [Program.pointee, ht]
  have run : ∀ p, a.eval x = .pointer p → (execOp a.eval o).run P W = .ok (.value (.bool (match neg with | true => !p.isNone | false => p.isNone))) W := fun p hp' => by
    have guard : (eqGuard op t x (.const (.pointer none)) (.pointer p) (.pointer none)).run P W = .ok () W := by
      unfold eqGuard; split <;> simp
    have hev : a.eval (.const (.pointer none)) = .pointer none := rfl
    cases neg <;> subst hop
    · simp only [execOp, ho, hp', hev, Sem.run_bind, guard, Result.andThen_ok, run_eql_pointer_nil W t p hp]; rfl
    · simp only [execOp, ho, hp', hev, Sem.run_bind, guard, Result.andThen_ok, binOp, run_equal_pointer_nil W t p hp]; rfl
  split at e
  · rename_i p
    replace e := when_some e; obtain ⟨hb, e⟩ := e
    cases Ru with
    | fz Ru =>
    generalize hxv : a.eval x = xv at Ru
    cases Ru with
    | nilp => refine good_pure I e (run _ hxv) ?_; cases neg <;> exact .fz (.bool _)
    | pt _ _ _ _ _ _ _ _ _ _ _ _ => refine good_pure I e (run _ hxv) ?_; cases neg <;> exact .fz (.bool _)
    | _ => simp [FV.isPt, FV.isNil] at hb
  · replace e := when_some e; obtain ⟨hb, e⟩ := e
    obtain ⟨o0, hv, _⟩ := alive_ptr hb Ru
    refine good_pure I e (run _ hv) ?_; cases neg <;> exact .fz (.bool _)
  · cases e
theorem notB_good {t : TypeId} {x : Operand} {x' : Opnd} (ho : o.op = .unOp .not t x) (I : HInv W0 S0 M W S ρ st.heap) (E : EInv W S ρ st.heap st.env a) (hx : opn x = some x')
    (e : stepI R key st (.notB x') K = some r) : Good P W0 S0 M o a W S ρ st K r := by
  simp only [stepI] at e
  replace e := ev_ok E hx e; obtain ⟨u, e, Ru⟩ := e
  replace e := getB_ok Ru e; obtain ⟨m, hm, e⟩ := e
  exact good_pure I e (by simp [execOp, ho, hm, Op.unary]) (.fz (.bool _))
theorem negI_good {t : TypeId} {x : Operand} {x' : Opnd} {k : IntKind} (ho : o.op = .unOp .neg t x) (I : HInv W0 S0 M W S ρ st.heap) (E : EInv W S ρ st.heap st.env a) (hx : opn x = some x')
    (e : stepI R key st (.negI k x') K = some r) : Good P W0 S0 M o a W S ρ st K r := by
  simp only [stepI] at e
  replace e := ev_ok E hx e; obtain ⟨u, e, Ru⟩ := e
  replace e := getI_ok Ru e; obtain ⟨m, hm, e⟩ := e
  exact good_pure I e (by simp [execOp, ho, hm, Op.unary, Op.intArith]) (.fz (.int _ _))
theorem conv_good {s d : TypeId} {x : Operand} {x' : Opnd} {k ks k' : IntKind} (ho : o.op = .convert s d x) (hs : P.underlying s = some (.int ks)) (hd : P.underlying d = some (.int k')) (I : HInv W0 S0 M W S ρ st.heap) (E : EInv W S ρ st.heap st.env a) (hx : opn x = some x')
    (e : stepI R key st (.conv k k' x') K = some r) : Good P W0 S0 M o a W S ρ st K r := by
  simp only [stepI] at e
  replace e := ev_ok E hx e; obtain ⟨u, e, Ru⟩ := e
  replace e := getI_ok Ru e; obtain ⟨m, hm, e⟩ := e
  exact good_pure I e (by simp [execOp, ho, hm, convert, run_underlying hs, run_underlying hd, Conv.intToInt]) (.fz (.int _ _))
theorem i2s_good {s d : TypeId} {x : Operand} {x' : Opnd} {k ks : IntKind} (ho : o.op = .convert s d x) (hs : P.underlying s = some (.int ks)) (hd : P.underlying d = some .string) (I : HInv W0 S0 M W S ρ st.heap) (E : EInv W S ρ st.heap st.env a) (hx : opn x = some x')
    (e : stepI R key st (.i2s k x') K = some r) : Good P W0 S0 M o a W S ρ st K r := by
  simp only [stepI] at e
  replace e := ev_ok E hx e; obtain ⟨u, e, Ru⟩ := e
  replace e := getI_ok Ru e; obtain ⟨m, hm, e⟩ := e
  exact good_pure I e (by simp [execOp, ho, hm, convert, run_underlying hs, run_underlying hd, Conv.intToString]) (.fz (.str _))
theorem nilck_good {x : Operand} {x' : Opnd} (ho : o.op = .nilCheck x) (I : HInv W0 S0 M W S ρ st.heap) (E : EInv W S ρ st.heap st.env a) (hx : opn x = some x')
    (e : stepI R key st (.nilck x') K = some r) : Good P W0 S0 M o a W S ρ st K r := by
  simp only [stepI] at e
  replace e := ev_ok E hx e; obtain ⟨u, e, Ru⟩ := e
  split at e
  · replace e := when_some e; obtain ⟨hp, e⟩ := e
    obtain ⟨n, agg, f, off, rfl⟩ := isPt_iff hp
    have Ru0 := Ru
    cases Ru with
    | fz Ru =>
    generalize hxv : a.eval x = xv at Ru Ru0
    cases Ru with
    | pt _ _ _ _ _ _ _ _ _ _ _ _ => exact good_pure I e (by simp [execOp, ho, hxv]) Ru0
  · replace e := when_some e; obtain ⟨hb, e⟩ := e
    obtain ⟨o0, hv, _⟩ := alive_ptr hb Ru
    exact good_pure I e (by simp [execOp, ho, hv]) Ru
  · cases e
theorem extract_good {x : Operand} {x' : Opnd} {i : Nat} (ho : o.op = .extract x i) (I : HInv W0 S0 M W S ρ st.heap) (E : EInv W S ρ st.heap st.env a) (hx : opn x = some x')
    (e : stepI R key st (.extract x' i) K = some r) : Good P W0 S0 M o a W S ρ st K r := by
  simp only [stepI] at e
  replace e := ev_ok E hx e; obtain ⟨u, e, Ru⟩ := e
  split at e
  · rename_i vs
    split at e
    · rename_i v hv
      generalize hxv : a.eval x = xv at Ru
      cases Ru with
      | tup _ us hl hh =>
        have hi : i < us.size := by have := (List.getElem?_eq_some_iff.1 hv).1; omega
        exact good_pure I e (by simp [execOp, ho, hxv, Instr.extract, Array.getElem?_eq_getElem hi]) (hh i v _ hv (Array.getElem?_eq_getElem hi))
    · cases e
  · cases e
theorem field_good {t : TypeId} {x : Operand} {x' : Opnd} {f m n : Nat} {agg : Bool} {fs : Array Field} {fd : Field} (ho : o.op = .field t x f) (ht : P.underlying t = some (.struct fs)) (hf : fs[f]? = some fd) (hz : szOf P fd.type = some (n, agg)) (I : HInv W0 S0 M W S ρ st.heap) (E : EInv W S ρ st.heap st.env a) (hx : opn x = some x')
    (e : stepI R key st (.field m n agg fd.offset x') K = some r) : Good P W0 S0 M o a W S ρ st K r := by
  simp only [stepI] at e
  replace e := ev_ok E hx e; obtain ⟨u, e, Ru⟩ := e
  obtain ⟨v, vs, hk, hxv, hs, h1, hm⟩ := part_ok Ru e
  obtain ⟨s1, s2, s3⟩ := szOf_run hz W
  cases agg with
  | true =>
    exact good_pure I hk (by simp [execOp, ho, hxv, Instr.field, run_underlying ht, hf, asAgg, Go.part, s1, s2]) hm.2
  | false =>
    obtain ⟨y, hy, Ry⟩ := hm
    exact good_pure I hk (by simp [execOp, ho, hxv, Instr.field, run_underlying ht, hf, asAgg, Go.part, s1, s2, hy]) Ry
theorem fadr_good {t : TypeId} {x : Operand} {x' : Opnd} {f n : Nat} {agg : Bool} {fs : Array Field} {fd : Field} (ho : o.op = .fieldAddr t x f) (ht : P.underlying t = some (.struct fs)) (hf : fs[f]? = some fd) (hz : szOf P fd.type = some (n, agg)) (hn : n ≠ 0) (I : HInv W0 S0 M W S ρ st.heap) (E : EInv W S ρ st.heap st.env a) (hx : opn x = some x')
    (e : stepI R key st (.fadr fd.offset x') K = some r) : Good P W0 S0 M o a W S ρ st K r := by
  simp only [stepI] at e
  replace e := ev_ok E hx e; obtain ⟨u, e, Ru⟩ := e
  obtain ⟨s1, s2, s3⟩ := szOf_run hz W
  have run : ∀ {B off : Nat}, a.eval x = .pointer (some ⟨B, off, none⟩) → (execOp a.eval o).run P W = .ok (.value (.pointer (some ⟨B, off + fd.offset, none⟩))) W := fun {B off} hp => by
    simp [execOp, ho, Instr.fieldAt, Instr.sureAddr, hp, run_underlying ht, hf, fieldPlace, s1, hn, Addr.add_lit]
  split at e
  · replace e := when_some e; obtain ⟨hp, e⟩ := e
    obtain ⟨pn, agg, f, off, rfl⟩ := isPt_iff hp
    cases Ru with
    | fz Ru =>
    generalize hxv : a.eval x = xv at Ru
    cases Ru with
    | pt _ _ _ _ B base g hS hf hc h1 hh =>
      refine good_pure I e (run hxv) (.fz ?_)
      rw [Nat.add_assoc]
      exact .pt pn agg f (off + fd.offset) B base g hS hf hc h1 hh
  · replace e := when_some e; obtain ⟨hb, e⟩ := e
    obtain ⟨o0, hv, hr⟩ := alive_ptr hb Ru
    refine good_pure I e (run hv) ?_
    rw [Nat.add_assoc]; exact hr _
  · cases e
end
end Go.Ab
end
section
namespace Go.Ab
section
variable {P : Program} {W0 W W' : World} {S0 M S : Nat → Prop} {ρ : Nat → Place} {h : Heap} {st : St} {a : Act} {β : Type} {r : β} {o : Oper} {K : LV → St → Option β} {key : Nat} {R : Nat → List TV → Option Ans}
structure Grown (W : World) (c : Array Value) (e : TypeId) (fr : Nat × Nat) (W' : World) : Prop where
  os : W'.os = W.os
  tape : W'.tape = W.tape
  output : W'.output = W.output
  heap : W'.heap = W.heap.push (.cells c e fr)
theorem Grown.poke {c : Array Value} {e : TypeId} {fr : Nat × Nat} (g : Grown W c e fr W') (X : Nat → Prop) : Poke W X W' :=
  ⟨g.os, g.tape, g.output, by rw [g.heap]; simp, fun b hb _ => by rw [g.heap, Array.getElem?_push, if_neg (by omega)]⟩
theorem Grown.cell {c : Array Value} {e : TypeId} {fr : Nat × Nat} (g : Grown W c e fr W') (j : Nat) : W'.cell? ⟨W.heap.size, j, none⟩ = c[j]? := by
  simp [World.cell?, g.heap]
theorem Grown.frozen {c : Array Value} {e : TypeId} {fr : Nat × Nat} (g : Grown W c e fr W') (j : Nat) (hj : ¬ (fr.1 ≤ j ∧ j < fr.2)) : W'.frozen? ⟨W.heap.size, j, none⟩ = false := by
  obtain ⟨lo, hi⟩ := fr
  simp only at hj
  simp only [World.frozen?, g.heap, Array.getElem?_push_size]
  by_cases h1 : lo ≤ j
  · have h2 : ¬ j < hi := fun h => hj ⟨h1, h⟩
    simp [h2]
  · simp [h1]
theorem Grown.size {c : Array Value} {e : TypeId} {fr : Nat × Nat} (g : Grown W c e fr W') : W'.heap.size = W.heap.size + 1 := by rw [g.heap]; simp
theorem Grown.alloc (W : World) (c : Array Value) (e : TypeId) : Grown W c e (0, 0) (W.alloc (.cells c e)) := ⟨rfl, rfl, rfl, rfl⟩
theorem Grown.drew (W : World) (c : Array Value) (e : TypeId) : Grown W c e (0, 0) (W.drew.alloc (.cells c e)) := ⟨rfl, rfl, rfl, rfl⟩
theorem HInv.fresh (I : HInv W0 S0 M W S ρ h) : ¬ S W.heap.size ∧ ∀ k b, aget k h = some b → b.owned = true → (ρ k).B ≠ W.heap.size := by
  refine ⟨fun hs => Nat.lt_irrefl _ (I.lt _ hs), fun k b hb ho e => ?_⟩
  have := (I.blk k b hb).lt (by intro e; subst e; cases ho)
  omega
theorem HInv.newVar (I : HInv W0 S0 M W S ρ h) (hk : aget key h = none) {n : Nat} {agg : Bool} {v : LV} {x : Value} (hf : lfits n agg v = true) (Rv : RepL W S ρ h v x) {e : TypeId} {fr : Nat × Nat} (g : Grown W x.cells e fr W') (hfr : ∀ j, j < n → ¬ (fr.1 ≤ j ∧ j < fr.2)) :
    HInv W0 S0 M W' S (upd ρ key ⟨W.heap.size, 0, n⟩) (aset key (.var n agg v) h) ∧ Later W S ρ h W' S (upd ρ key ⟨W.heap.size, 0, n⟩) (aset key (.var n agg v) h) ∧
      RepL W' S (upd ρ key ⟨W.heap.size, 0, n⟩) (aset key (.var n agg v) h) (.ptr key 0 0) (.pointer (some ⟨W.heap.size, 0, none⟩)) := by
  obtain ⟨f1, f2⟩ := I.fresh
  obtain ⟨I1, L1⟩ := I.poke (g.poke (fun _ => False)) (fun _ h => h.elim) (fun _ h => h.elim) (fun _ _ _ _ h => h)
  obtain ⟨c1, c2, c3⟩ := lfits_cells hf Rv
  obtain ⟨I2, L2⟩ := I1.add (key := key) (p := ⟨W.heap.size, 0, n⟩) (b := .var n agg v) hk rfl (.inl I.ext.size) f2 (fun ρ' h' L => by
    refine ⟨f1, rfl, ⟨by rw [g.size]; exact Nat.lt_succ_self _, hf, fun j => x.cells.getD j undef, fun j hj => ?_, fun j hj => ?_, ?_⟩, fun j hj => by rw [Nat.zero_add]; exact g.frozen j (hfr j hj)⟩
    · rw [Nat.zero_add, g.cell]; simp [Array.getD, c1, hj]
    · have : x.cells[j]? = some (x.cells.getD j undef) := by simp [Array.getD, c1, hj]
      exact c2 j _ this
    · rw [← c3]; exact (Rv.later L1).later L)
  refine ⟨I2, L1.trans L2, .ptr key 0 0 _ (.var n agg v) (by rw [aget_aset, if_pos rfl]) (fun _ _ _ h => by cases h) (fun m agg' h => by cases h; simp [upd]) rfl⟩
theorem HInv.newRow (I : HInv W0 S0 M W S ρ h) (hk : aget key h = none) {sz cap : Nat} {agg : Bool} {xs : List FV} {c : Array Value} (hlen : xs.length ≤ cap) (hf : ∀ f ∈ xs, f.fits sz agg = true) (hc : c.size = cap * sz)
    (h1 : ∀ j, j < xs.length * sz → (c.getD j undef).oneCell' = true) (hr : ∀ (i : Nat) (f : FV) (j : Nat) (y : FV), xs[i]? = some f → f.cells[j]? = some y → Rep W S y (c.getD (i * sz + j) undef)) {e : TypeId} {fr : Nat × Nat} (g : Grown W c e fr W') (hfr : ∀ j, j < cap * sz → ¬ (fr.1 ≤ j ∧ j < fr.2)) :
    HInv W0 S0 M W' S (upd ρ key ⟨W.heap.size, 0, cap⟩) (aset key (.row sz agg xs) h) ∧ Later W S ρ h W' S (upd ρ key ⟨W.heap.size, 0, cap⟩) (aset key (.row sz agg xs) h) ∧
      RepL W' S (upd ρ key ⟨W.heap.size, 0, cap⟩) (aset key (.row sz agg xs) h) (.rw key) (.slice (some ⟨W.heap.size, 0, none⟩) xs.length cap) := by
  obtain ⟨f1, f2⟩ := I.fresh
  obtain ⟨I1, L1⟩ := I.poke (g.poke (fun _ => False)) (fun _ h => h.elim) (fun _ h => h.elim) (fun _ _ _ _ h => h)
  obtain ⟨I2, L2⟩ := I1.add (key := key) (p := ⟨W.heap.size, 0, cap⟩) (b := .row sz agg xs) hk rfl (.inl I.ext.size) f2 (fun ρ' h' L => by
    refine ⟨f1, ⟨by rw [g.size]; exact Nat.lt_succ_self _, hlen, hf, fun j => c.getD j undef, fun j hj => ?_, h1, fun i f j y hi hj => (hr i f j y hi hj).mono L1.s L1.w⟩, fun j hj => by rw [Nat.zero_add]; exact g.frozen j (hfr j hj)⟩
    rw [Nat.zero_add, g.cell]; simp only at hj; simp [Array.getD, hc, hj])
  refine ⟨I2, L1.trans L2, .rw key _ (.row sz agg xs) (by rw [aget_aset, if_pos rfl]) (fun s g' ys h => by cases h; simp [upd]) rfl⟩
theorem alloc_good {t : TypeId} {n : Nat} {agg : Bool} {z : LV} {i : TypeInfo} {z0 : Value} (ho : o.op = .alloc t) (hi : P.info? t = some i) (hz0 : i.zero = some z0) (hz : cst z0 = some z) (I : HInv W0 S0 M W S ρ st.heap)
    (e : stepI R key st (.alloc n agg z) K = some r) : Good P W0 S0 M o a W S ρ st K r := by
  simp only [stepI] at e
  replace e := when_some e; obtain ⟨hf, e⟩ := e
  split at e
  · rename_i hk
    have Rz : RepL W S ρ st.heap z z0 := cst_ok hz
    obtain ⟨I', L, Rv⟩ := I.newVar hk hf Rz (Grown.alloc W z0.cells t) (fun j _ h => by simp at h)
    refine ⟨_, _, e, rfl, ?_⟩
    have hrun : (execOp a.eval o).run P W = .ok (.value (.pointer (some ⟨W.heap.size, 0, none⟩))) (W.alloc (.cells z0.cells t)) := by
      simp [execOp, ho, Instr.alloc, zeroValue, typeInfo, hi, hz0, newVar, newRow]
    unfold OpRes; rw [hrun]
    exact ⟨S, _, I', L, Rv⟩
  · cases e
theorem box_good {t : TypeId} {x : Operand} {x' : Opnd} {n : Nat} {agg : Bool} (ho : o.op = .box t x) (I : HInv W0 S0 M W S ρ st.heap) (E : EInv W S ρ st.heap st.env a) (hx : opn x = some x')
    (e : stepI R key st (.box n agg x') K = some r) : Good P W0 S0 M o a W S ρ st K r := by
  simp only [stepI] at e
  replace e := ev_ok E hx e; obtain ⟨u, e, Ru⟩ := e
  replace e := when_some e; obtain ⟨hf, e⟩ := e
  split at e
  · rename_i hk
    obtain ⟨I', L, Rv⟩ := I.newVar hk hf Ru (Grown.alloc W (a.eval x).cells t) (fun j _ h => by simp at h)
    refine ⟨_, _, e, rfl, ?_⟩
    have hrun : (execOp a.eval o).run P W = .ok (.value (.pointer (some ⟨W.heap.size, 0, none⟩))) (W.alloc (.cells (a.eval x).cells t)) := by
      simp [execOp, ho, Instr.box, newVar, newRow]
    unfold OpRes; rw [hrun]
    exact ⟨S, _, I', L, Rv⟩
  · cases e
theorem frzs_ok {f : Heap → LV → (FV → Heap → Option β) → Option β}
    (hf : ∀ (S : Nat → Prop) (h : Heap) (v : LV) (x : Value) (K : FV → Heap → Option β), HInv W0 S0 M W S ρ h → RepL W S ρ h v x → f h v K = some r → ∃ e h' S', K e h' = some r ∧ HInv W0 S0 M W S' ρ h' ∧ Later W S ρ h W S' ρ h' ∧ Rep W S' e x ∧ ∀ n agg, lfits n agg v = true → e.fits n agg = true) :
    ∀ (vs : List LV) (S : Nat → Prop) (h : Heap) (xs : List Value) (K : List FV → Heap → Option β), xs.length = vs.length → HInv W0 S0 M W S ρ h → (∀ (j : Nat) (v : LV) (x : Value), vs[j]? = some v → xs[j]? = some x → RepL W S ρ h v x) → frzs f h vs K = some r →
      ∃ es h' S', K es h' = some r ∧ HInv W0 S0 M W S' ρ h' ∧ Later W S ρ h W S' ρ h' ∧ es.length = vs.length ∧ (∀ (j : Nat) (e : FV) (x : Value), es[j]? = some e → xs[j]? = some x → Rep W S' e x)
  | [], S, h, xs, K, hl, I, _, e => ⟨[], h, S, e, I, Later.refl _ _ _ _, rfl, fun j e x he _ => by simp at he⟩
  | v :: vs, S, h, xs, K, hl, I, hv, e => by
    cases xs with
    | nil => simp at hl
    | cons x xs =>
    simp only [frzs] at e
    obtain ⟨e1, h1, S1, hk1, I1, L1, R1, _⟩ := hf S h v x _ I (hv 0 v x rfl rfl) e
    obtain ⟨es, h2, S2, hk2, I2, L2, hl2, R2⟩ := frzs_ok hf vs S1 h1 xs _ (by simpa using hl) I1 (fun j v x hj hx => (hv (j + 1) v x hj hx).later L1) hk1
    refine ⟨e1 :: es, h2, S2, hk2, I2, L1.trans L2, by simp [hl2], fun j e x' he hx => ?_⟩
    cases j with
    | zero => simp at he hx; subst he; subst hx; exact R1.mono L2.s L2.w
    | succ j => exact R2 j e x' (by simpa using he) (by simpa using hx)
theorem RowAt.rep {p : Place} {sz : Nat} {agg : Bool} {xs : List FV} (A : RowAt W S p sz agg xs) (hS : S p.B) {off len o cap : Nat} (hle : off + len ≤ xs.length) (hcap : len ≤ cap) (ho : 0 < cap → o = p.off + off * sz) :
    Rep W S (.sl ((xs.drop off).take len)) (.slice (some ⟨p.B, o, none⟩) len cap) := by
  obtain ⟨lt, hlen, fits, g, h1, h2, h3⟩ := A
  have hl : ((xs.drop off).take len).length = len := by simp; omega
  by_cases h0 : len = 0
  · subst h0
    have : (xs.drop off).take 0 = [] := by simp
    rw [this]; exact .sl0 _ _
  · obtain rfl := ho (by omega)
    have hm : (off + len) * sz ≤ xs.length * sz := Nat.mul_le_mul_right sz hle
    have hm2 : xs.length * sz ≤ p.cap * sz := Nat.mul_le_mul_right sz hlen
    rw [Nat.add_mul] at hm
    have key : ∀ i f, ((xs.drop off).take len)[i]? = some f → xs[off + i]? = some f := fun i f hf => by
      rw [List.getElem?_take] at hf
      split at hf
      · rwa [List.getElem?_drop] at hf
      · cases hf
    have := Rep.sl (W := W) (S := S) ((xs.drop off).take len) p.B (p.off + off * sz) cap sz agg (fun j => g (off * sz + j)) hS (by omega)
      (fun f hf => by obtain ⟨i, hi⟩ := List.getElem?_of_mem hf; exact fits f (List.mem_of_getElem? (key i f hi)))
      (fun j hj => by rw [hl] at hj; rw [Nat.add_assoc]; exact h1 _ (by omega)) (fun j hj => by rw [hl] at hj; exact h2 _ (by omega))
      (fun i f j y hi hj => by have := h3 (off + i) f j y (key i f hi) hj; rw [Nat.add_mul, Nat.add_assoc] at this; exact this)
    rwa [hl] at this
theorem RowAt.rep_all {p : Place} {sz : Nat} {agg : Bool} {xs : List FV} (A : RowAt W S p sz agg xs) (hS : S p.B) : Rep W S (.sl xs) (.slice (some ⟨p.B, p.off, none⟩) xs.length p.cap) := by
  have := A.rep hS (off := 0) (len := xs.length) (o := p.off) (cap := p.cap) (by omega) A.len (fun _ => by simp)
  simpa using this
theorem HInv.iceVar (I : HInv W0 S0 M W S ρ h) (key : Nat) {n : Nat} {agg : Bool} {v : LV} {e : FV} (hk : aget key h = some (.var n agg v)) (V : VarAt W S ρ h (ρ key).B n agg (.fz e)) :
    HInv W0 S0 M W (fun b => S b ∨ b = (ρ key).B) ρ (aset key (.icv n agg e) h) ∧ Later W S ρ h W (fun b => S b ∨ b = (ρ key).B) ρ (aset key (.icv n agg e) h) := by
  have L : Later W S ρ h W (fun b => S b ∨ b = (ρ key).B) ρ (aset key (.icv n agg e) h) := ⟨fun _ h => .inl h, fun _ _ => rfl, fun k c hc => by
    refine ⟨rfl, ?_⟩
    by_cases e' : key = k
    · subst e'
      rw [hk] at hc; cases hc
      exact ⟨.icv n agg e, by rw [aget_aset, if_pos rfl], .inr (.inr ⟨n, agg, rfl, rfl⟩)⟩
    · exact ⟨c, by rw [aget_aset, if_neg e']; exact hc, c.le_refl⟩⟩
  have r0 := I.blk key _ hk
  have old : ∀ k c, aget k (aset key (.icv n agg e) h) = some c → c.owned = true → aget k h = some c ∧ k ≠ key := fun k c hc ho => by
    rw [aget_aset] at hc
    by_cases e' : key = k
    · rw [if_pos e'] at hc; cases hc; cases ho
    · rw [if_neg e'] at hc; exact ⟨hc, fun x => e' x.symm⟩
  refine ⟨⟨I.ext, fun b hb => .inl (I.sub b hb), fun b hb => ?_, fun b hb => ?_, fun k c hc => ?_, fun k c hc hco => I.own k c (old k c hc hco).1 hco, fun k k' c c' hc hc' h1 h2 hne => I.dis k k' c c' (old k c hc h1).1 (old k' c' hc' h2).1 h1 h2 hne⟩, L⟩
  · rcases hb with hb | rfl
    · exact I.sup b hb
    · exact .inr (I.own key _ hk rfl)
  · rcases hb with hb | rfl
    · exact I.lt b hb
    · exact r0.2.2.1.lt
  · by_cases e' : key = k
    · subst e'
      rw [aget_aset, if_pos rfl] at hc; cases hc
      obtain ⟨lt, fits, g, c1, c2, c3⟩ := V
      refine ⟨.inr rfl, r0.2.1, lt, fits, g, c1, c2, ?_⟩
      cases c3 with
      | fz R => exact .fz (R.mono (fun _ h => .inl h) fun _ _ => rfl)
    · rw [aget_aset, if_neg e'] at hc
      refine (I.blk k c hc).later L rfl (Nat.le_refl _) (fun hn hco => ?_)
      rintro (hb | hb)
      · exact hn hb
      · exact I.dis k key c _ hc hk hco rfl (fun x => e' x.symm) hb
theorem ptr_fits {key i off n : Nat} {agg : Bool} {f : FV} {n2 : Nat} {agg2 : Bool} (hf : lfits n2 agg2 (.ptr key i off) = true) : (FV.pt n agg f off).fits n2 agg2 = true := by
  cases agg2 <;> simp_all [lfits, FV.fits]
set_option maxHeartbeats 1000000 in
theorem frz_ok : ∀ (m : Nat) (S : Nat → Prop) (h : Heap) (v : LV) (x : Value) (K : FV → Heap → Option β), HInv W0 S0 M W S ρ h → RepL W S ρ h v x → frz m h v K = some r →
    ∃ e h' S', K e h' = some r ∧ HInv W0 S0 M W S' ρ h' ∧ Later W S ρ h W S' ρ h' ∧ Rep W S' e x ∧ ∀ n agg, lfits n agg v = true → e.fits n agg = true
  | 0, _, _, _, _, _, _, _, e => by cases e
  | m + 1, S, h, v, x, K, I, Rv, e => by
    have ih := frz_ok m
    unfold frz at e
    split at e
    · cases Rv with
      | fz Rv => exact ⟨_, _, S, e, I, Later.refl _ _ _ _, Rv, fun _ _ h => h⟩
    · cases Rv with
      | nils ad => exact ⟨_, _, S, e, I, Later.refl _ _ _ _, .sl0 _ _, fun n agg hf => by cases agg <;> simp_all [lfits, FV.fits]⟩
    · rename_i key
      cases Rv with
      | rw _ _ b hb hv h1 =>
      split at e
      · rename_i sz agg xs hb'
        rw [hb] at hb'; cases hb'
        obtain ⟨I', L⟩ := I.freeze key hb
        refine ⟨_, _, _, e, I', L, ?_, fun n agg hf => by cases agg <;> simp_all [lfits, FV.fits]⟩
        rw [hv _ _ _ rfl]
        exact ((I.blk key _ hb).2.1.mono L.s L.w rfl (Nat.le_refl _)).rep_all (.inr rfl)
      · rename_i sz agg xs hb'
        rw [hb] at hb'; cases hb'
        refine ⟨_, _, S, e, I, Later.refl _ _ _ _, ?_, fun n agg hf => by cases agg <;> simp_all [lfits, FV.fits]⟩
        rw [hv _ _ _ rfl]
        exact (I.blk key _ hb).2.rep_all (I.blk key _ hb).1
      · cases e
    · rename_i key off len
      cases Rv with
      | loc _ _ _ _ b hb hv h1 _ =>
      split at e
      · rename_i sz agg xs hb'
        rw [hb] at hb'; cases hb'
        replace e := when_some e; obtain ⟨_, e⟩ := e
        obtain ⟨I', L⟩ := I.freeze key hb
        refine ⟨_, _, _, e, I', L, ?_, fun n agg hf => by cases agg <;> simp_all [lfits, FV.fits]⟩
        obtain ⟨o, cap, rfl, h2, h3, h4, h5⟩ := hv _ _ _ rfl
        exact ((I.blk key _ hb).2.1.mono L.s L.w rfl (Nat.le_refl _)).rep (.inr rfl) h2 h3 h5
      · rename_i sz agg xs hb'
        rw [hb] at hb'; cases hb'
        replace e := when_some e; obtain ⟨_, e⟩ := e
        refine ⟨_, _, S, e, I, Later.refl _ _ _ _, ?_, fun n agg hf => by cases agg <;> simp_all [lfits, FV.fits]⟩
        obtain ⟨o, cap, rfl, h2, h3, h4, h5⟩ := hv _ _ _ rfl
        exact (I.blk key _ hb).2.rep (I.blk key _ hb).1 h2 h3 h5
      · cases e
    · rename_i key i off
      cases Rv with
      | ptr _ _ _ _ b hb hv hu h1 =>
      split at e
      · rename_i n agg u hb'
        rw [hb] at hb'; cases hb'
        replace e := when_some e; obtain ⟨hi, e⟩ := e
        obtain ⟨rfl, rfl⟩ := hu _ _ rfl
        obtain ⟨hnS, hoff, V, _⟩ := I.blk key _ hb
        obtain ⟨g, c1, c2, RV⟩ := V.cells
        obtain ⟨f, h', S', e, I', L, Rf, hfit⟩ := ih S h u _ _ I RV e
        split at e
        · rename_i n' agg' u' hb2
          have hff := hfit n agg V.fits
          obtain ⟨_, b', hb3, hle⟩ := L.dom key _ hb
          rw [hb2] at hb3; cases hb3
          obtain ⟨rfl, rfl⟩ : n = n' ∧ agg = agg' := by
            rcases hle with h0 | ⟨_, _, _, _, h0, _⟩ | ⟨_, _, h0, h1⟩
            · cases h0
            · cases h0
            · cases h0; cases h1; exact ⟨rfl, rfl⟩
          obtain ⟨I2, L2⟩ := I'.iceVar key hb2 ⟨V.lt, hff, g, c1, c2, .fz Rf⟩
          refine ⟨_, _, _, e, I2, L.trans L2, ?_, fun n2 agg2 hf => ptr_fits hf⟩
          obtain ⟨d1, d2, d3⟩ := rep_cells hff Rf
          rw [hoff]
          refine .pt n agg f off _ 0 g (.inr rfl) hff c1 c2 (fun j y hj => ?_)
          have hjn : j < n := by have := (List.getElem?_eq_some_iff.1 hj).1; rwa [fits_cells hff] at this
          refine (d3 j y (g j) hj ?_).mono L2.s L2.w
          cases agg with
          | true => simp [loaded, Value.cells, hjn]
          | false =>
            obtain ⟨rfl, _, _⟩ := fits_one hff
            obtain rfl : j = 0 := by omega
            have := cells_one (c2 0 (by omega))
            simp [loaded, this]
        · cases e
      · rename_i sz agg xs hb'
        rw [hb] at hb'; cases hb'
        replace e := when_some e; obtain ⟨hi, e⟩ := e
        have hi : i < xs.length := by simpa using hi
        obtain ⟨I', L⟩ := I.freeze key hb
        refine ⟨_, _, _, e, I', L, ?_, fun n agg hf => by cases agg <;> simp_all [lfits, FV.fits]⟩
        rw [hv _ _ _ rfl]
        obtain ⟨g, c1, c2, c3, c4⟩ := ((I.blk key _ hb).2.1.mono L.s L.w rfl (Nat.le_refl _)).elem hi
        exact .pt _ _ _ _ _ _ g (.inr rfl) c3 c1 c2 c4
      · rename_i sz agg xs hb'
        rw [hb] at hb'; cases hb'
        replace e := when_some e; obtain ⟨hi, e⟩ := e
        have hi : i < xs.length := by simpa using hi
        refine ⟨_, _, S, e, I, Later.refl _ _ _ _, ?_, fun n agg hf => by cases agg <;> simp_all [lfits, FV.fits]⟩
        rw [hv _ _ _ rfl]
        obtain ⟨g, c1, c2, c3, c4⟩ := (I.blk key _ hb).2.elem hi
        exact .pt _ _ _ _ _ _ g (I.blk key _ hb).1 c3 c1 c2 c4
      · rename_i n agg u hb'
        rw [hb] at hb'; cases hb'
        replace e := when_some e; obtain ⟨hi, e⟩ := e
        obtain ⟨rfl, rfl⟩ := hu _ _ rfl
        obtain ⟨hS, hoff, V⟩ := I.blk key _ hb
        obtain ⟨g, c1, c2, RV⟩ := V.cells
        cases RV with
        | fz Rf =>
        have hff : u.fits n agg = true := V.fits
        obtain ⟨d1, d2, d3⟩ := rep_cells hff Rf
        refine ⟨_, _, S, e, I, Later.refl _ _ _ _, ?_, fun n agg hf => by cases agg <;> simp_all [lfits, FV.fits]⟩
        rw [hoff]
        refine .pt n agg u off _ 0 g hS hff c1 c2 (fun j y hj => ?_)
        have hjn : j < n := by have := (List.getElem?_eq_some_iff.1 hj).1; rwa [fits_cells hff] at this
        refine d3 j y (g j) hj ?_
        cases agg with
        | true => simp [loaded, Value.cells, hjn]
        | false =>
          obtain ⟨rfl, _, _⟩ := fits_one hff
          obtain rfl : j = 0 := by omega
          have := cells_one (c2 0 (by omega))
          simp [loaded, this]
      · cases e
    · rename_i cs
      cases Rv with
      | ag _ vs hl h1 hh =>
      obtain ⟨es, h', S', hk, I', L, hl2, R2⟩ := frzs_ok (fun S h v x K I R e => ih S h v x K I R e) cs S h vs.toList _ (by simpa using hl) I (fun j v x hj hx => hh j v x hj (by simpa using hx)) e
      exact ⟨_, h', S', hk, I', L, .ag es vs (by simp [hl2, hl]) h1 (fun j e v he hv => R2 j e v he (by simpa using hv)), fun n agg hf => by cases agg <;> simp_all [lfits, FV.fits, FV.isAg]⟩
    · rename_i f cs
      cases Rv with
      | clo _ _ vs hl hh =>
      obtain ⟨es, h', S', hk, I', L, hl2, R2⟩ := frzs_ok (fun S h v x K I R e => ih S h v x K I R e) cs S h vs.toList _ (by simpa using hl) I (fun j v x hj hx => hh j v x hj (by simpa using hx)) e
      exact ⟨_, h', S', hk, I', L, .fn f es vs (by simp [hl2, hl]) (fun j e v he hv => R2 j e v he (by simpa using hv)), fun n agg hf => by cases agg <;> simp_all [lfits, FV.fits]⟩
    · cases e
end
end Go.Ab
end
section
namespace Go.Ab
section
variable {P : Program} {W0 W W' : World} {S0 M S : Nat → Prop} {ρ : Nat → Place} {h : Heap} {st : St} {a : Act} {β : Type} {r : β} {o : Oper} {K : LV → St → Option β} {key : Nat} {R : Nat → List TV → Option Ans}
theorem elem_apart {i i' sz j off n : Nat} (hne : i' ≠ i) (hj : j < sz) (hn : off + n ≤ sz) : ¬ (i * sz + off ≤ i' * sz + j ∧ i' * sz + j < i * sz + off + n) := by
  rcases Nat.lt_or_gt_of_ne hne with h | h
  · have : (i' + 1) * sz ≤ i * sz := Nat.mul_le_mul_right sz h
    rw [Nat.add_mul] at this; omega
  · have : (i + 1) * sz ≤ i' * sz := Nat.mul_le_mul_right sz h
    rw [Nat.add_mul] at this; omega
theorem HInv.setElem (I : HInv W0 S0 M W S ρ h) {sz : Nat} {agg : Bool} {xs : List FV} (hk : aget key h = some (.row sz agg xs)) {i off : Nat} {e' : FV} {ds : List Value} (hi : i < xs.length) (hf : e'.fits sz agg = true) (hle : off + ds.length ≤ sz)
    (h1 : ∀ u ∈ ds, u.oneCell' = true)
    (hin : ∀ (j : Nat) (x : FV), e'.cells[j]? = some x → ∃ v, (if off ≤ j ∧ j < off + ds.length then ds[j - off]? else W.cell? ⟨(ρ key).B, (ρ key).off + i * sz + j, none⟩) = some v ∧ Rep W S x v) :
    HInv W0 S0 M (W.setCells (ρ key).B ((ρ key).off + i * sz + off) ds) S ρ (aset key (.row sz agg (xs.set i e')) h) ∧ Later W S ρ h (W.setCells (ρ key).B ((ρ key).off + i * sz + off) ds) S ρ (aset key (.row sz agg (xs.set i e')) h) := by
  obtain ⟨hnS, A, thaw⟩ := I.blk key _ hk
  obtain ⟨lt, hlen, fits, g, c1, c2, c3⟩ := A
  have hm : (i + 1) * sz ≤ xs.length * sz := Nat.mul_le_mul_right sz (by omega)
  have hm2 : xs.length * sz ≤ (ρ key).cap * sz := Nat.mul_le_mul_right sz hlen
  rw [Nat.add_mul, Nat.one_mul] at hm
  have there : ∀ j, j < ds.length → (W.cell? ⟨(ρ key).B, (ρ key).off + i * sz + off + j, none⟩).isSome = true := fun j hj => by
    have := c1 (i * sz + off + j) (by omega)
    rw [show (ρ key).off + i * sz + off + j = (ρ key).off + (i * sz + off + j) by omega, this]; rfl
  have get := setCells_get W (ρ key).B ((ρ key).off + i * sz + off) ds there
  have pk := setCells_poke W (ρ key).B ((ρ key).off + i * sz + off) ds
  refine I.set hk rfl rfl (.inr (.inl ⟨sz, agg, xs, xs.set i e', rfl, rfl, by simp⟩)) pk (fun h' L => ?_)
  refine ⟨hnS, ⟨by rw [(setCells_size _ _ _ _).1]; exact lt, by simpa using hlen, fun f hf' => ?_, fun k => if i * sz + off ≤ k ∧ k < i * sz + off + ds.length then ds.getD (k - (i * sz + off)) undef else g k, fun k hk' => ?_, fun k hk' => ?_, fun i' f j y hi' hj => ?_⟩, fun j hj => by rw [World.frozen?_setCells]; exact thaw j hj⟩
  · rcases List.mem_or_eq_of_mem_set hf' with h2 | rfl
    · exact fits f h2
    · exact hf
  · rw [get]
    dsimp only
    by_cases hin' : i * sz + off ≤ k ∧ k < i * sz + off + ds.length
    · rw [if_pos (by omega), if_pos hin', show (ρ key).off + k - ((ρ key).off + i * sz + off) = k - (i * sz + off) by omega]
      have : k - (i * sz + off) < ds.length := by omega
      simp [List.getD, List.getElem?_eq_getElem this]
    · rw [if_neg (by omega), if_neg hin']
      exact c1 k hk'
  · simp only [List.length_set] at hk'
    dsimp only
    split
    · have : k - (i * sz + off) < ds.length := by omega
      refine h1 _ ?_
      rw [List.getD, List.getElem?_eq_getElem this]; exact List.getElem_mem _
    · exact c2 k (by omega)
  · dsimp only
    by_cases hii : i' = i
    · subst hii
      rw [List.getElem?_set_self hi] at hi'
      cases hi'
      have hjs : j < sz := by have := (List.getElem?_eq_some_iff.1 hj).1; rwa [fits_cells hf] at this
      obtain ⟨v, hv, Rv⟩ := hin j y hj
      have : v = (if i' * sz + off ≤ i' * sz + j ∧ i' * sz + j < i' * sz + off + ds.length then ds.getD (i' * sz + j - (i' * sz + off)) undef else g (i' * sz + j)) := by
        by_cases hc : off ≤ j ∧ j < off + ds.length
        · rw [if_pos hc] at hv
          rw [if_pos (by omega), show i' * sz + j - (i' * sz + off) = j - off by omega, List.getD, hv]; rfl
        · rw [if_neg hc] at hv
          rw [if_neg (by omega)]
          have := c1 (i' * sz + j) (by omega)
          rw [show (ρ key).off + i' * sz + j = (ρ key).off + (i' * sz + j) by omega, this] at hv
          cases hv; rfl
      rw [← this]
      exact Rv.mono L.s L.w
    · rw [List.getElem?_set_ne (fun e => hii e.symm)] at hi'
      have hjs : j < sz := by have := (List.getElem?_eq_some_iff.1 hj).1; rwa [fits_cells (fits f (List.mem_of_getElem? hi'))] at this
      rw [if_neg (elem_apart hii hjs hle)]
      exact (c3 i' f j y hi' hj).mono L.s L.w
theorem HInv.setVar (I : HInv W0 S0 M W S ρ h) {n : Nat} {agg : Bool} {u v : LV} (hk : aget key h = some (.var n agg u)) {off : Nat} {ds : List Value} {x : Value} (hle : off + ds.length ≤ n) (h1 : ∀ u ∈ ds, u.oneCell' = true)
    (hf : lfits n agg v = true) (Rv : RepL W S ρ h v x) (hx : ∀ j, j < n → some (x.cells.getD j undef) = (if off ≤ j ∧ j < off + ds.length then ds[j - off]? else W.cell? ⟨(ρ key).B, 0 + j, none⟩)) :
    HInv W0 S0 M (W.setCells (ρ key).B off ds) S ρ (aset key (.var n agg v) h) ∧ Later W S ρ h (W.setCells (ρ key).B off ds) S ρ (aset key (.var n agg v) h) := by
  obtain ⟨hnS, hoff, V, thaw⟩ := I.blk key _ hk
  obtain ⟨lt, fits, g, c1, c2, c3⟩ := V
  have there : ∀ j, j < ds.length → (W.cell? ⟨(ρ key).B, off + j, none⟩).isSome = true := fun j hj => by
    have := c1 (off + j) (by omega)
    rw [Nat.zero_add] at this; rw [this]; rfl
  have get := setCells_get W (ρ key).B off ds there
  obtain ⟨d1, d2, d3⟩ := lfits_cells hf Rv
  refine I.set hk rfl rfl (.inr (.inr ⟨n, agg, rfl, rfl⟩)) (setCells_poke W (ρ key).B off ds) (fun h' L => ?_)
  refine ⟨hnS, hoff, ⟨by rw [(setCells_size _ _ _ _).1]; exact lt, hf, fun j => x.cells.getD j undef, fun j hj => ?_, fun j hj => ?_, ?_⟩, fun j hj => by rw [World.frozen?_setCells]; exact thaw j hj⟩
  · rw [get, hx j hj, Nat.zero_add]
  · have : x.cells[j]? = some (x.cells.getD j undef) := by simp [Array.getD, d1, hj]
    exact d2 j _ this
  · rw [← d3]; exact Rv.later L
theorem store_good {t : TypeId} {x v : Operand} {x' v' : Opnd} {n : Nat} {agg : Bool} (ho : o.op = .store t x v) (I : HInv W0 S0 M W S ρ st.heap) (E : EInv W S ρ st.heap st.env a) (hz : szOf P t = some (n, agg)) (hx : opn x = some x') (hv : opn v = some v')
    (e : stepI R key st (.store n agg x' v') K = some r) : Good P W0 S0 M o a W S ρ st K r := by
  simp only [stepI] at e
  replace e := ev_ok E hx e; obtain ⟨p, e, Rp⟩ := e
  replace e := ev_ok E hv e; obtain ⟨u, e, Ru⟩ := e
  have hagg := (szOf_run hz W).2.2
  have run : ∀ {B off : Nat}, a.eval x = .pointer (some ⟨B, off, none⟩) → (a.eval v).cells.size = n → (∀ j, j < n → (W.cell? ⟨B, off + j, none⟩).isSome = true) → (∀ j, j < n → W.frozen? ⟨B, off + j, none⟩ = false) → (∀ (j : Nat) (u : Value), (a.eval v).cells[j]? = some u → u.oneCell' = true) →
      (execOp a.eval o).run P W = .ok .skip (W.setCells B off (a.eval v).cells.toList) := fun {B off} hp h1 h2 h3 h4 => by
    simp [execOp, ho, Instr.storeAt, Instr.sureAddr, hp, store_run hz h1 h2 h3 h4]
  have one : (∀ (j : Nat) (u : Value), (a.eval v).cells[j]? = some u → u.oneCell' = true) → ∀ u ∈ (a.eval v).cells.toList, u.oneCell' = true := fun h4 u hu => by
    obtain ⟨j, hj⟩ := List.getElem?_of_mem hu; exact h4 j u (by simpa using hj)
  have fin : ∀ {st' : St} {B off : Nat} {S' : Nat → Prop}, K (.tup []) st' = some r → st'.env = st.env → (execOp a.eval o).run P W = .ok .skip (W.setCells B off (a.eval v).cells.toList) →
      HInv W0 S0 M (W.setCells B off (a.eval v).cells.toList) S' ρ st'.heap → Later W S ρ st.heap (W.setCells B off (a.eval v).cells.toList) S' ρ st'.heap → Good P W0 S0 M o a W S ρ st K r := fun {st' B off S'} hk henv hrun I' L => by
    refine ⟨_, st', hk, henv, ?_⟩
    unfold OpRes; rw [hrun]
    exact ⟨S', ρ, I', L, .tup [] #[] rfl (fun j e v he _ => by simp at he)⟩
  split at e
  · rename_i k i off
    cases Rp with
    | ptr _ _ _ _ b hb hv hu hp1 =>
    split at e
    · rename_i m agg' w hb'
      rw [hb] at hb'; cases hb'
      replace e := when_some e; obtain ⟨hi, e⟩ := e
      obtain ⟨rfl, hp⟩ := hu _ _ rfl
      obtain ⟨hnS, hoff, V, thaw⟩ := I.blk k _ hb
      obtain ⟨lt, hwf, g, c1, c2, c3⟩ := V
      rw [hoff, Nat.zero_add] at hp
      split at e
      · rename_i hcond
        simp only [Bool.and_eq_true, beq_iff_eq] at hcond
        obtain ⟨rfl, rfl, rfl⟩ := hcond
        replace e := when_some e; obtain ⟨hf, e⟩ := e
        obtain ⟨d1, d2, d3⟩ := lfits_cells hf Ru
        have hrun := run hp d1 (fun j hj => by rw [c1 j hj]; rfl) (fun j hj => thaw j hj) d2
        obtain ⟨I', L⟩ := I.setVar hb (off := 0) (ds := (a.eval v).cells.toList) (x := a.eval v) (by simp [d1]) (one d2) hf Ru (fun j hj => by
          rw [if_pos (by simp [d1, hj])]; simp [Array.getD, d1, hj])
        exact fin e rfl hrun I' L
      · replace e := when_some e; obtain ⟨ha, e⟩ := e
        subst ha
        obtain ⟨u', vs, hk, hvs, hsz, hle, d1, d2, hf', Ru', _⟩ := putPart_ok hagg c3 Ru e
        simp only [loaded] at hvs; cases hvs
        have hrun := run hp d1 (fun j hj => by have := c1 (off + j) (by omega); rw [Nat.zero_add] at this; rw [this]; rfl) (fun j hj => by have := thaw (off + j) (by omega); rwa [Nat.zero_add] at this) d2
        obtain ⟨I', L⟩ := I.setVar hb (off := off) (ds := (a.eval v).cells.toList) (by simpa [d1] using hle) (one d2) hf' Ru' (fun j hj => by
          have hsp := splice_get (vs := (List.map g (List.range m)).toArray) (ds := (a.eval v).cells) (off := off) (by simpa [d1] using hle) j
          have hj2 : (splice (List.map g (List.range m)).toArray off (a.eval v).cells).size = m := by rw [splice_size (by simpa [d1] using hle)]; simp
          have hget : (splice (List.map g (List.range m)).toArray off (a.eval v).cells)[j]? = some ((splice (List.map g (List.range m)).toArray off (a.eval v).cells).getD j undef) := by simp [Array.getD, hj2, hj]
          show some ((splice (List.map g (List.range m)).toArray off (a.eval v).cells).getD j undef) = _
          rw [← hget, hsp]
          have hc1 := c1 j hj
          by_cases q1 : j < off
          · rw [if_pos q1, if_neg (by omega), hc1]; simp [hj]
          · rw [if_neg q1]
            by_cases q2 : j < off + (a.eval v).cells.size
            · rw [if_pos q2, if_pos (by simp only [Array.length_toList]; omega)]; simp
            · rw [if_neg q2, if_neg (by simp only [Array.length_toList]; omega), hc1]; simp [hj])
        exact fin hk rfl hrun I' L
    · rename_i sz agg' xs hb'
      rw [hb] at hb'; cases hb'
      have hp := hv _ _ _ rfl
      replace e := frz_ok 5 S st.heap u (a.eval v) _ I Ru e; obtain ⟨f, h', S', e, I', L, Rf, hfit⟩ := e
      split at e
      · rename_i sz2 agg2 xs2 hb2
        obtain ⟨hpl, b', hb2', hle2⟩ := L.dom k _ hb
        rw [hb2] at hb2'; cases hb2'
        obtain ⟨rfl, rfl, hl2⟩ : sz2 = sz ∧ agg2 = agg' ∧ xs2.length = xs.length := by
          rcases hle2 with h0 | ⟨a1, a2, a3, a4, e1, e2, e3⟩ | ⟨n1, a1, e1, e2⟩
          · cases h0
          · simp only [Blk.rowOf, Option.some.injEq, Prod.mk.injEq] at e1 e2
            obtain ⟨rfl, rfl, rfl⟩ := e1
            obtain ⟨rfl, rfl, rfl⟩ := e2
            exact ⟨rfl, rfl, e3⟩
          · cases e1
        replace e := when_some e; obtain ⟨hi, e⟩ := e
        have hi : i < xs2.length := by simpa using hi
        obtain ⟨hnS, A, thaw⟩ := I'.blk k _ hb2
        have hlen2 : xs2.length * sz2 ≤ (ρ k).cap * sz2 := Nat.mul_le_mul_right sz2 A.len
        have hm : (i + 1) * sz2 ≤ xs2.length * sz2 := Nat.mul_le_mul_right sz2 (by omega)
        rw [Nat.add_mul, Nat.one_mul] at hm
        obtain ⟨g, c1, c2, c3, c4⟩ := A.elem hi
        have thaw' : ∀ j, j < sz2 → W.frozen? ⟨(ρ k).B, (ρ k).off + i * sz2 + j, none⟩ = false := fun j hj => by
          have := thaw (i * sz2 + j) (by omega)
          rwa [← Nat.add_assoc] at this
        split at e
        · rename_i hcond
          simp only [Bool.and_eq_true, beq_iff_eq] at hcond
          obtain ⟨rfl, rfl, rfl⟩ := hcond
          replace e := when_some e; obtain ⟨hf, e⟩ := e
          obtain ⟨d1, d2, d3⟩ := rep_cells hf Rf
          have d2' : ∀ (j : Nat) (u : Value), (a.eval v).cells[j]? = some u → u.oneCell' = true := fun j u hu => d2 u (List.mem_of_getElem? (by simpa using hu : (a.eval v).cells.toList[j]? = some u))
          have hrun := run hp d1 (fun j hj => by rw [Nat.add_zero, c1 j hj]; rfl) (fun j hj => by rw [Nat.add_zero]; exact thaw' j hj) d2'
          obtain ⟨I2, L2⟩ := I'.setElem hb2 (i := i) (off := 0) (e' := f) (ds := (a.eval v).cells.toList) hi hf (by simp [d1]) d2 (fun j y hj => by
            have hjn : j < n := by have := (List.getElem?_eq_some_iff.1 hj).1; rwa [fits_cells hf] at this
            have hju : (a.eval v).cells[j]? = some ((a.eval v).cells.getD j undef) := by simp [Array.getD, d1, hjn]
            refine ⟨_, ?_, d3 j y _ hj hju⟩
            rw [if_pos (by simp [d1, hjn])]
            simpa using hju)
          exact fin e rfl hrun I2 (L.trans L2)
        · replace e := when_some e; obtain ⟨ha, e⟩ := e
          subst ha
          have RL : RepL W S' ρ h' (.fz (xs2.getD i .nilp)) (loaded sz2 true g) := .fz (rep_loaded c3 c2 c4)
          have RF : RepL W S' ρ h' (.fz f) (a.eval v) := .fz Rf
          obtain ⟨u', vs, hk, hvs, hsz, hle, d1, d2, hf', Ru', _⟩ := putPart_ok hagg RL RF e
          simp only [loaded] at hvs; cases hvs
          split at hk
          · rename_i f2
            cases Ru' with
            | fz Ru' =>
            have hf2 : f2.fits sz2 true = true := hf'
            obtain ⟨q1, q2, q3⟩ := rep_cells hf2 Ru'
            have hrun := run hp d1 (fun j hj => by have := c1 (off + j) (by omega); rw [← Nat.add_assoc] at this; rw [this]; rfl) (fun j hj => by have := thaw' (off + j) (by omega); rwa [← Nat.add_assoc] at this) d2
            have hsp := fun j => splice_get (vs := (List.map g (List.range sz2)).toArray) (ds := (a.eval v).cells) (off := off) (by simpa [d1] using hle) j
            obtain ⟨I2, L2⟩ := I'.setElem hb2 (i := i) (off := off) (e' := f2) (ds := (a.eval v).cells.toList) hi hf2 (by simpa [d1] using hle) (one d2) (fun j y hj => by
              have hjn : j < sz2 := by have := (List.getElem?_eq_some_iff.1 hj).1; rwa [fits_cells hf2] at this
              simp only [Value.cells] at q1 q3
              have hju : (splice (List.map g (List.range sz2)).toArray off (a.eval v).cells)[j]? = some ((splice (List.map g (List.range sz2)).toArray off (a.eval v).cells).getD j undef) := by
                have : j < (splice (List.map g (List.range sz2)).toArray off (a.eval v).cells).size := by simp only [Value.cells]; omega
                simp [Array.getD, this]
              refine ⟨_, ?_, q3 j y _ hj hju⟩
              rw [← hju, hsp]
              have hc1 := c1 j hjn
              by_cases w1 : j < off
              · rw [if_pos w1, if_neg (by omega), hc1]; simp [hjn]
              · rw [if_neg w1]
                by_cases w2 : j < off + (a.eval v).cells.size
                · rw [if_pos w2, if_pos (by simp only [Array.length_toList]; omega)]; simp
                · rw [if_neg w2, if_neg (by simp only [Array.length_toList]; omega), hc1]; simp [hjn])
            exact fin hk rfl hrun I2 (L.trans L2)
          · cases hk
      · cases e
    · cases e
  · cases e
end
end Go.Ab
end
section
namespace Go.Ab
section
variable {P : Program} {W0 W W' : World} {S0 M S : Nat → Prop} {ρ : Nat → Place} {h : Heap} {st : St} {a : Act} {β : Type} {r : β} {o : Oper} {K : LV → St → Option β} {key : Nat} {R : Nat → List TV → Option Ans}
theorem fits_unique {e : FV} {n m : Nat} {a b : Bool} (h1 : e.fits n a = true) (h2 : e.fits m b = true) : n = m ∧ a = b := by
  have hn := fits_cells h1
  have hm := fits_cells h2
  refine ⟨hn.symm.trans hm, ?_⟩
  cases a <;> cases b
  · rfl
  · obtain ⟨cs, rfl, _⟩ := fits_agg h2; exact absurd rfl ((fits_one h1).2.1 cs)
  · obtain ⟨cs, rfl, _⟩ := fits_agg h1; exact absurd rfl ((fits_one h2).2.1 cs)
  · rfl
theorem and_dec {p q : Prop} [Decidable p] [Decidable q] (h : (decide p && decide q) = true) : p ∧ q := by simpa using h
theorem and_eq {n m : Nat} {a b : Bool} (h : (n == m && a == b) = true) : n = m ∧ a = b := by simpa using h
theorem rowOf_ok {k : Nat} {b : Blk} {sz : Nat} {agg : Bool} {xs : List FV} (I : HInv W0 S0 M W S ρ h) (hb : aget k h = some b) (hr : b.rowOf = some (sz, agg, xs)) : RowAt W S (ρ k) sz agg xs := by
  have := I.blk k b hb
  cases b <;> simp only [Blk.rowOf] at hr <;> cases hr
  · exact this.2.1
  · exact this.2
theorem iadrS_good {t el : TypeId} {x ix : Operand} {x' ix' : Opnd} {sz : Nat} {agg : Bool} (ho : o.op = .indexAddr t x ix) (ht : P.underlying t = some (.slice el)) (hz : szOf P el = some (sz, agg)) (I : HInv W0 S0 M W S ρ st.heap) (E : EInv W S ρ st.heap st.env a) (hx : opn x = some x') (hi : opn ix = some ix')
    (e : stepI R key st (.iadr (.sl sz agg) x' ix') K = some r) : Good P W0 S0 M o a W S ρ st K r := by
  simp only [stepI] at e
  replace e := ev_ok E hx e; obtain ⟨u, e, Ru⟩ := e
  replace e := ev_ok E hi e; obtain ⟨w, e, Rw⟩ := e
  replace e := getN_ok Rw e; obtain ⟨kd, i, hiv, e⟩ := e
  obtain ⟨s1, s2, s3⟩ := szOf_run hz W
  have run : ∀ {B off len cap : Nat}, a.eval x = .slice (some ⟨B, off, none⟩) len cap → 0 ≤ i → i < len → (execOp a.eval o).run P W = .ok (.value (.pointer (some ⟨B, off + i.toNat * sz, none⟩))) W := fun {B off len cap} hp h0 h1 => by
    simp [execOp, ho, Instr.indexAt, hp, hiv, asIntOf, run_underlying ht, s1, h0, h1, Addr.add_lit]
  split at e
  · rename_i f
    replace e := when_some e; obtain ⟨hsl, e⟩ := e
    replace e := when_some e; obtain ⟨hb, e⟩ := e
    replace e := when_some e; obtain ⟨hf, e⟩ := e
    obtain ⟨h0, h1⟩ := and_dec hb
    cases f <;> simp only [FV.isSl] at hsl <;> try cases hsl
    rename_i es
    simp only [FV.toSl] at h1 hf e
    cases Ru with
    | fz Ru =>
    generalize hxv : a.eval x = xv at Ru
    cases Ru with
    | sl0 ad cap => simp at h1; omega
    | sl _ B off cap sz' agg' g hS hcap hfs hc hc1 hh =>
      have hin : i.toNat < es.length := by omega
      have hget : es[i.toNat]? = some (es.getD i.toNat .nilp) := by simp [List.getD, List.getElem?_eq_getElem hin]
      obtain ⟨rfl, rfl⟩ := fits_unique hf (hfs _ (List.mem_of_getElem? hget))
      have hm : (i.toNat + 1) * sz ≤ es.length * sz := Nat.mul_le_mul_right sz (by omega)
      rw [Nat.add_mul, Nat.one_mul] at hm
      refine good_pure I e (run hxv h0 h1) (.fz ?_)
      exact .pt sz agg _ 0 B (off + i.toNat * sz) (fun j => g (i.toNat * sz + j)) hS hf (fun j hj => by rw [Nat.add_assoc]; exact hc _ (by omega)) (fun j hj => hc1 _ (by omega)) (fun j y hj => hh i.toNat _ j y hget hj)
  · rename_i k
    replace e := rowLen_ok e; obtain ⟨b, sz', agg', xs, hb, hrow, e⟩ := e
    replace e := when_some e; obtain ⟨hs, e⟩ := e
    replace e := when_some e; obtain ⟨hbd, e⟩ := e
    obtain ⟨rfl, rfl⟩ := and_eq hs
    obtain ⟨h0, h1⟩ := and_dec hbd
    cases Ru with
    | rw _ _ b' hb' hv _ =>
    rw [hb] at hb'; cases hb'
    refine good_pure I e (run (hv _ _ _ hrow) h0 h1) (.ptr k _ _ _ b hb (fun s g ys hr => ?_) (fun n g hr => ?_) rfl)
    · rw [hrow] at hr; cases hr; rfl
    · cases b <;> simp_all [Blk.rowOf, Blk.varOf]
  · rename_i k off len
    replace e := rowLen_ok e; obtain ⟨b, sz', agg', xs, hb, hrow, e⟩ := e
    replace e := when_some e; obtain ⟨hs, e⟩ := e
    replace e := when_some e; obtain ⟨hbd, e⟩ := e
    obtain ⟨rfl, rfl⟩ := and_eq hs
    obtain ⟨h0, h1⟩ := and_dec hbd
    cases Ru with
    | loc _ _ _ _ b' hb' hv _ _ =>
    rw [hb] at hb'; cases hb'
    obtain ⟨o0, cap, hxv, h2, h3, h4, h5⟩ := hv _ _ _ hrow
    obtain rfl := h5 (by omega)
    refine good_pure I e (run hxv h0 h1) (.ptr k _ _ _ b hb (fun s g ys hr => ?_) (fun n g hr => ?_) rfl)
    · rw [hrow] at hr; cases hr
      rw [Nat.add_mul]; simp [Nat.add_assoc]
    · cases b <;> simp_all [Blk.rowOf, Blk.varOf]
  · cases e
theorem iadrA_good {t el : TypeId} {x ix : Operand} {x' ix' : Opnd} {len sz : Nat} {agg : Bool} (ho : o.op = .indexAddr t x ix) (ht : P.underlying t = some (.array len el)) (hz : szOf P el = some (sz, agg)) (I : HInv W0 S0 M W S ρ st.heap) (E : EInv W S ρ st.heap st.env a) (hx : opn x = some x') (hi : opn ix = some ix')
    (e : stepI R key st (.iadr (.arr len sz agg) x' ix') K = some r) : Good P W0 S0 M o a W S ρ st K r := by
  simp only [stepI] at e
  replace e := ev_ok E hx e; obtain ⟨u, e, Ru⟩ := e
  replace e := ev_ok E hi e; obtain ⟨w, e, Rw⟩ := e
  replace e := getN_ok Rw e; obtain ⟨kd, i, hiv, e⟩ := e
  obtain ⟨s1, s2, s3⟩ := szOf_run hz W
  replace e := when_some e; obtain ⟨hbd, e⟩ := e
  obtain ⟨h0, h1⟩ := and_dec hbd
  have run : ∀ {B off : Nat}, a.eval x = .pointer (some ⟨B, off, none⟩) → (execOp a.eval o).run P W = .ok (.value (.pointer (some ⟨B, off + i.toNat * sz, none⟩))) W := fun {B off} hp => by
    simp [execOp, ho, Instr.indexAt, Instr.sureAddr, hp, hiv, asIntOf, run_underlying ht, s1, h0, h1, Addr.add_lit]
  split at e
  · replace e := when_some e; obtain ⟨hp, e⟩ := e
    obtain ⟨pn, pagg, f, off, rfl⟩ := isPt_iff hp
    cases Ru with
    | fz Ru =>
    generalize hxv : a.eval x = xv at Ru
    cases Ru with
    | pt _ _ _ _ B base g hS hf hc hc1 hh =>
      refine good_pure I e (run hxv) (.fz ?_)
      rw [Nat.add_assoc]
      exact .pt pn pagg f (off + i.toNat * sz) B base g hS hf hc hc1 hh
  · replace e := when_some e; obtain ⟨hb, e⟩ := e
    obtain ⟨o0, hv, hr⟩ := alive_ptr hb Ru
    refine good_pure I e (run hv) ?_
    rw [Nat.add_assoc]; exact hr _
  · cases e
theorem indexA_good {t el : TypeId} {x ix : Operand} {x' ix' : Opnd} {len sz : Nat} {agg : Bool} (ho : o.op = .index t x ix) (ht : P.underlying t = some (.array len el)) (hz : szOf P el = some (sz, agg)) (I : HInv W0 S0 M W S ρ st.heap) (E : EInv W S ρ st.heap st.env a) (hx : opn x = some x') (hi : opn ix = some ix')
    (e : stepI R key st (.index (.arr len sz agg) x' ix') K = some r) : Good P W0 S0 M o a W S ρ st K r := by
  simp only [stepI] at e
  replace e := ev_ok E hx e; obtain ⟨u, e, Ru⟩ := e
  replace e := ev_ok E hi e; obtain ⟨w, e, Rw⟩ := e
  replace e := getN_ok Rw e; obtain ⟨kd, i, hiv, e⟩ := e
  obtain ⟨s1, s2, s3⟩ := szOf_run hz W
  replace e := when_some e; obtain ⟨hbd, e⟩ := e
  obtain ⟨h0, h1⟩ := and_dec hbd
  obtain ⟨v, vs, hk, hxv, hs, h1', hm⟩ := part_ok Ru e
  cases agg with
  | true =>
    exact good_pure I hk (by simp [execOp, ho, hxv, Instr.index, hiv, asIntOf, run_underlying ht, Go.part, s1, s2, h0, h1]) hm.2
  | false =>
    obtain ⟨y, hy, Ry⟩ := hm
    exact good_pure I hk (by simp [execOp, ho, hxv, Instr.index, hiv, asIntOf, run_underlying ht, Go.part, s1, s2, h0, h1, hy]) Ry
theorem indexS_good {t : TypeId} {x ix : Operand} {x' ix' : Opnd} (ho : o.op = .index t x ix) (ht : P.underlying t = some .string) (I : HInv W0 S0 M W S ρ st.heap) (E : EInv W S ρ st.heap st.env a) (hx : opn x = some x') (hi : opn ix = some ix')
    (e : stepI R key st (.index .str x' ix') K = some r) : Good P W0 S0 M o a W S ρ st K r := by
  simp only [stepI] at e
  replace e := ev_ok E hx e; obtain ⟨u, e, Ru⟩ := e
  replace e := ev_ok E hi e; obtain ⟨w, e, Rw⟩ := e
  replace e := getN_ok Rw e; obtain ⟨kd, i, hiv, e⟩ := e
  replace e := getS_ok Ru e; obtain ⟨s, hs, e⟩ := e
  replace e := when_some e; obtain ⟨hbd, e⟩ := e
  obtain ⟨h0, h1⟩ := and_dec hbd
  have hin : i.toNat < s.size := by omega
  have hg : s[i.toNat]? = some (s.data.getD i.toNat 0) := by
    rw [getElem?_pos s i.toNat hin]
    have : i.toNat < s.data.size := hin
    simp only [Array.getD, dif_pos this]; rfl
  exact good_pure I e (by simp [execOp, ho, Instr.index, hs, hiv, asIntOf, run_underlying ht, h0, hg]) (.fz (.int _ _))
theorem len_good {t : TypeId} {x : Operand} {x' : Opnd} {k : SK} (ho : o.op = .call { callee := .builtin .len, args := #[x], argTypes := #[t] }) (ht : match k with | .str => P.underlying t = some .string | .sl _ _ => ∃ el, P.underlying t = some (.slice el) | .arr n _ _ => ∃ el, P.underlying t = some (.array n el))
    (I : HInv W0 S0 M W S ρ st.heap) (E : EInv W S ρ st.heap st.env a) (hx : opn x = some x')
    (e : stepI R key st (.len k x') K = some r) : Good P W0 S0 M o a W S ρ st K r := by
  simp only [stepI] at e
  replace e := ev_ok E hx e; obtain ⟨u, e, Ru⟩ := e
  cases k with
  | str =>
    replace e := getS_ok Ru e; obtain ⟨s, hs, e⟩ := e
    exact good_pure I e (by simp [execOp, ho, resolve, invoke, builtin, Builtin.len_, hs, run_underlying ht, goInt]) (.fz (.int _ _))
  | arr n sz agg =>
    obtain ⟨el, ht⟩ := ht
    exact good_pure I e (by simp [execOp, ho, resolve, invoke, builtin, Builtin.len_, run_underlying ht, goInt]) (.fz (.int _ _))
  | sl sz agg =>
    obtain ⟨el, ht⟩ := ht
    have run : ∀ {ad : Option Addr} {len cap : Nat}, a.eval x = .slice ad len cap → (execOp a.eval o).run P W = .ok (.value (.int .i64 len)) W := fun {ad len cap} hp => by
      simp [execOp, ho, resolve, invoke, builtin, Builtin.len_, hp, run_underlying ht, goInt]
    simp only at e
    split at e
    · generalize hxv : a.eval x = xv at Ru
      cases Ru with
      | nils ad => exact good_pure I e (run hxv) (.fz (.int _ _))
    · rename_i f
      replace e := when_some e; obtain ⟨hsl, e⟩ := e
      cases f <;> simp only [FV.isSl] at hsl <;> try cases hsl
      cases Ru with
      | fz Ru =>
      generalize hxv : a.eval x = xv at Ru
      cases Ru with
      | sl0 ad cap => exact good_pure I e (run hxv) (.fz (.int _ _))
      | sl es B off cap sz' agg' g hS hcap hfs hc hc1 hh => exact good_pure I e (run hxv) (.fz (.int _ _))
    · rename_i kk
      replace e := rowLen_ok e; obtain ⟨b, sz', agg', xs, hb, hrow, e⟩ := e
      replace e := when_some e; obtain ⟨hs, e⟩ := e
      cases Ru with
      | rw _ _ b' hb' hv _ =>
      rw [hb] at hb'; cases hb'
      exact good_pure I e (run (hv _ _ _ hrow)) (.fz (.int _ _))
    · rename_i kk off len
      replace e := rowLen_ok e; obtain ⟨b, sz', agg', xs, hb, hrow, e⟩ := e
      cases Ru with
      | loc _ _ _ _ b' hb' hv _ _ =>
      rw [hb] at hb'; cases hb'
      obtain ⟨o0, cap, hxv, h2, h3, h4, h5⟩ := hv _ _ _ hrow
      exact good_pure I e (run hxv) (.fz (.int _ _))
    · cases e
def opnO : Option Operand → Option (Option Opnd)
  | none => some none
  | some x => (opn x).map some
def RepO (W : World) (S : Nat → Prop) (ρ : Nat → Place) (h : Heap) : Option LV → Option Value → Prop
  | none, none => True
  | some v, some x => RepL W S ρ h v x
  | _, _ => False
def BndO (d n : Int) : Option Value → Prop
  | none => n = d
  | some x => ∃ k, x = .int k n
theorem optI_ok {v : Option LV} {x : Option Value} {d : Int} {K : Int → Option β} (R : RepO W S ρ st.heap v x) (e : optI v d K = some r) :
    ∃ n, K n = some r ∧ BndO d n x := by
  cases v with
  | none =>
    cases x with
    | none => exact ⟨d, e, rfl⟩
    | some x => exact R.elim
  | some v =>
    cases x with
    | none => exact R.elim
    | some x =>
      obtain ⟨k, n, hx, e⟩ := getN_ok R e
      exact ⟨n, e, k, hx⟩
theorem evO_ok {x : Option Operand} {y : Option Opnd} {K : Option LV → Option β} (E : EInv W S ρ st.heap st.env a) (hx : opnO x = some y) (e : evO st y K = some r) :
    ∃ v, K v = some r ∧ RepO W S ρ st.heap v (x.map a.eval) := by
  cases x with
  | none => cases hx; exact ⟨none, e, trivial⟩
  | some x =>
    obtain ⟨y', hy, rfl⟩ := Option.map_eq_some_iff.1 hx
    obtain ⟨v, e, R⟩ := ev_ok E hy e
    exact ⟨some v, e, R⟩
theorem bounds_run {isSl : Bool} {len cap : Nat} {lo hi : Option Value} {l h : Int} (hhi : BndO len h hi) (hlo : BndO 0 l lo) (h0 : 0 ≤ h) (hc : h ≤ cap) (l0 : 0 ≤ l) (lh : l ≤ h) :
    (Instr.sliceBounds isSl len cap lo hi none).run P W = .ok (l.toNat, h.toNat, cap) W := by
  have sb : ∀ (k : IntKind) (i : Int) (y : Nat) (code : BoundsCode), 0 ≤ i → i ≤ y → (Instr.sliceBound (.int k i) y code).run P W = .ok i.toNat W := fun k i y code p q => by
    simp [Instr.sliceBound, asIntOf, p, q]
  cases hi with
  | none =>
    cases hhi
    cases lo with
    | none => cases hlo; simp [Instr.sliceBounds]
    | some x =>
      obtain ⟨k, rfl⟩ := hlo
      simp [Instr.sliceBounds, sb _ _ _ _ l0 lh]
  | some y =>
    obtain ⟨k, rfl⟩ := hhi
    have lh' : l ≤ ((h.toNat : Nat) : Int) := by omega
    cases lo with
    | none => cases hlo; simp [Instr.sliceBounds, sb _ _ _ _ h0 hc]
    | some x =>
      obtain ⟨k', rfl⟩ := hlo
      simp [Instr.sliceBounds, sb _ _ _ _ h0 hc, sb _ _ _ _ l0 lh']
theorem sliceStr_good {t : TypeId} {x : Operand} {x' : Opnd} {lo hi : Option Operand} {lo' hi' : Option Opnd} (ho : o.op = .slice t x lo hi none) (ht : P.underlying t = some .string) (I : HInv W0 S0 M W S ρ st.heap) (E : EInv W S ρ st.heap st.env a) (hx : opn x = some x')
    (hlo : opnO lo = some lo') (hhi : opnO hi = some hi')
    (e : stepI R key st (.slice .str x' lo' hi' none) K = some r) : Good P W0 S0 M o a W S ρ st K r := by
  simp only [stepI, evO] at e
  replace e := ev_ok E hx e; obtain ⟨u, e, Ru⟩ := e
  replace e := evO_ok E hlo e; obtain ⟨l, e, Rl⟩ := e
  replace e := evO_ok E hhi e; obtain ⟨hh, e, Rh⟩ := e
  replace e := getS_ok Ru e; obtain ⟨s, hs, e⟩ := e
  replace e := optI_ok Rh e; obtain ⟨nh, e, h1⟩ := e
  replace e := optI_ok Rl e; obtain ⟨nl, e, h2⟩ := e
  replace e := when_some e; obtain ⟨hb1, e⟩ := e
  replace e := when_some e; obtain ⟨hb2, e⟩ := e
  obtain ⟨b1, b2⟩ := and_dec hb1
  obtain ⟨b3, b4⟩ := and_dec hb2
  have hr := bounds_run (P := P) (W := W) (isSl := false) (len := s.size) (cap := s.size) h1 h2 b1 b2 b3 b4
  exact good_pure I e (by simp [execOp, ho, Instr.sliceAt, Instr.slice, run_underlying ht, hs, hr]) (.fz (.str _))
theorem sliceSl_good {t el : TypeId} {x : Operand} {x' : Opnd} {lo hi : Option Operand} {lo' hi' : Option Opnd} {sz : Nat} {agg : Bool} (ho : o.op = .slice t x lo hi none) (ht : P.underlying t = some (.slice el)) (hz : szOf P el = some (sz, agg)) (I : HInv W0 S0 M W S ρ st.heap) (E : EInv W S ρ st.heap st.env a) (hx : opn x = some x')
    (hlo : opnO lo = some lo') (hhi : opnO hi = some hi')
    (e : stepI R key st (.slice (.sl sz agg) x' lo' hi' none) K = some r) : Good P W0 S0 M o a W S ρ st K r := by
  simp only [stepI, evO] at e
  replace e := ev_ok E hx e; obtain ⟨u, e, Ru⟩ := e
  replace e := evO_ok E hlo e; obtain ⟨lv, e, Rl⟩ := e
  replace e := evO_ok E hhi e; obtain ⟨hv', e, Rh⟩ := e
  obtain ⟨s1, s2, s3⟩ := szOf_run hz W
  have run : ∀ {ad : Option Addr} {len cap : Nat} {l h : Int}, a.eval x = .slice ad len cap → BndO len h (hi.map a.eval) → BndO 0 l (lo.map a.eval) → 0 ≤ h → h ≤ cap → 0 ≤ l → l ≤ h →
      (execOp a.eval o).run P W = .ok (.value (.slice (if cap = l.toNat then ad else ad.map (·.add (l.toNat * sz))) (h.toNat - l.toNat) (cap - l.toNat))) W := fun {ad len cap l h} hp h1 h2 b1 b2 b3 b4 => by
    have hr := bounds_run (P := P) (W := W) (isSl := true) (len := len) (cap := cap) h1 h2 b1 b2 b3 b4
    simp [execOp, ho, Instr.sliceAt, Instr.slice, run_underlying ht, hp, hr, s1]
  have tail : ∀ {B off cap : Nat} {l : Int}, (if cap = l.toNat then (some ⟨B, off, none⟩ : Option Addr) else (some ⟨B, off, none⟩ : Option Addr).map (·.add (l.toNat * sz))) = some ⟨B, if cap = l.toNat then off else off + l.toNat * sz, none⟩ := fun {B off cap l} => by
    split <;> simp [Addr.add_lit]
  split at e
  · generalize hxv : a.eval x = xv at Ru
    cases Ru with
    | nils ad =>
      replace e := optI_ok Rh e; obtain ⟨nh, e, h1⟩ := e
      replace e := optI_ok Rl e; obtain ⟨nl, e, h2⟩ := e
      replace e := when_some e; obtain ⟨hb, e⟩ := e
      obtain ⟨rfl, rfl⟩ := and_dec hb
      exact good_pure I e (by rw [run hxv h1 h2 (by omega) (by omega) (by omega) (by omega)]; rfl) (.nils ad)
  · rename_i f
    replace e := when_some e; obtain ⟨hsl, e⟩ := e
    replace e := optI_ok Rh e; obtain ⟨nh, e, h1⟩ := e
    replace e := optI_ok Rl e; obtain ⟨nl, e, h2⟩ := e
    replace e := when_some e; obtain ⟨hb1, e⟩ := e
    replace e := when_some e; obtain ⟨hb2, e⟩ := e
    obtain ⟨b1, b2⟩ := and_dec hb1
    obtain ⟨b3, b4⟩ := and_dec hb2
    simp only [Bool.and_eq_true] at hsl
    obtain ⟨hsl, hall⟩ := hsl
    cases f <;> simp only [FV.isSl] at hsl <;> try cases hsl
    rename_i es
    simp only [FV.toSl] at b2 h1 e hall
    have hsz : ∀ f ∈ es, f.fits sz agg = true := fun f hf => List.all_eq_true.1 hall f hf
    cases Ru with
    | fz Ru =>
    generalize hxv : a.eval x = xv at Ru
    cases Ru with
    | sl0 ad cap =>
      simp only [List.length_nil] at b2
      have e0 : ((([] : List FV).take nh.toNat).drop nl.toNat) = [] := by simp
      have hnh : nh.toNat = 0 := by simp at b2; omega
      have hnl : nl.toNat = 0 := by omega
      refine good_pure I e (run hxv h1 h2 b1 (by simp at b2; omega) b3 b4) (.fz ?_)
      rw [e0, hnh, hnl]
      exact .sl0 _ _
    | sl _ B off cap sz' agg' g hS hcap hfs hc hc1 hh =>
      refine good_pure I e (run hxv h1 h2 b1 (by omega) b3 b4) (.fz ?_)
      rw [tail]
      have hlen : ((es.take nh.toNat).drop nl.toNat).length = nh.toNat - nl.toNat := by simp; omega
      by_cases h0 : nh.toNat - nl.toNat = 0
      · have : (es.take nh.toNat).drop nl.toNat = [] := List.eq_nil_of_length_eq_zero (hlen.trans h0)
        rw [this, h0]; exact .sl0 _ _
      · have hne : ∃ f, f ∈ es := by
          cases es with
          | nil => simp at b2; omega
          | cons f fs => exact ⟨f, List.mem_cons_self⟩
        rw [if_neg (by omega)]
        · obtain ⟨f, hf⟩ := hne
          obtain ⟨rfl, rfl⟩ := fits_unique (hsz f hf) (hfs f hf)
          have key : ∀ i f, ((es.take nh.toNat).drop nl.toNat)[i]? = some f → es[nl.toNat + i]? = some f := fun i f hf => by
            rw [List.getElem?_drop, List.getElem?_take] at hf
            split at hf
            · exact hf
            · cases hf
          have hm : nh.toNat * sz ≤ es.length * sz := Nat.mul_le_mul_right sz (by omega)
          have hm2 : (nh.toNat - nl.toNat) * sz + nl.toNat * sz = nh.toNat * sz := by rw [← Nat.add_mul]; congr 1; omega
          have R2 := Rep.sl (W := W) (S := S) ((es.take nh.toNat).drop nl.toNat) B (off + nl.toNat * sz) (cap - nl.toNat) sz agg (fun j => g (nl.toNat * sz + j)) hS (by omega)
            (fun f hf => by obtain ⟨i, hi⟩ := List.getElem?_of_mem hf; exact hfs f (List.mem_of_getElem? (key i f hi)))
            (fun j hj => by rw [hlen] at hj; rw [Nat.add_assoc]; exact hc _ (by omega)) (fun j hj => by rw [hlen] at hj; exact hc1 _ (by omega))
            (fun i f j y hi hj => by have := hh (nl.toNat + i) f j y (key i f hi) hj; rw [Nat.add_mul, Nat.add_assoc] at this; exact this)
          rwa [hlen] at R2
  · rename_i k
    replace e := rowLen_ok e; obtain ⟨b, sz', agg', xs, hb, hrow, e⟩ := e
    replace e := when_some e; obtain ⟨hs, e⟩ := e
    obtain ⟨rfl, rfl⟩ := and_eq hs
    replace e := optI_ok Rh e; obtain ⟨nh, e, h1⟩ := e
    replace e := optI_ok Rl e; obtain ⟨nl, e, h2⟩ := e
    replace e := when_some e; obtain ⟨hb1, e⟩ := e
    replace e := when_some e; obtain ⟨hb2, e⟩ := e
    obtain ⟨b1, b2⟩ := and_dec hb1
    obtain ⟨b3, b4⟩ := and_dec hb2
    cases Ru with
    | rw _ _ b' hb' hv _ =>
    rw [hb] at hb'; cases hb'
    have A := rowOf_ok I hb hrow
    have hlen := A.len
    refine good_pure I e (run (hv _ _ _ hrow) h1 h2 b1 (by omega) b3 b4) ?_
    rw [tail]
    refine .loc k _ _ _ b hb (fun s g ys hr => ?_) rfl (fun _ => trivial)
    rw [hrow] at hr; cases hr
    refine ⟨_, _, rfl, by omega, by omega, by omega, fun hc => ?_⟩
    rw [if_neg (by omega)]
  · rename_i k off len
    replace e := rowLen_ok e; obtain ⟨b, sz', agg', xs, hb, hrow, e⟩ := e
    replace e := when_some e; obtain ⟨hs, e⟩ := e
    obtain ⟨rfl, rfl⟩ := and_eq hs
    replace e := optI_ok Rh e; obtain ⟨nh, e, h1⟩ := e
    replace e := optI_ok Rl e; obtain ⟨nl, e, h2⟩ := e
    replace e := when_some e; obtain ⟨hb1, e⟩ := e
    replace e := when_some e; obtain ⟨hb2, e⟩ := e
    obtain ⟨b1, b2⟩ := and_dec hb1
    obtain ⟨b3, b4⟩ := and_dec hb2
    cases Ru with
    | loc _ _ _ _ b' hb' hv _ _ =>
    rw [hb] at hb'; cases hb'
    obtain ⟨o0, cap, hxv, q2, q3, q4, q5⟩ := hv _ _ _ hrow
    refine good_pure I e (run hxv h1 h2 b1 (by omega) b3 b4) ?_
    rw [tail]
    refine .loc k _ _ _ b hb (fun s g ys hr => ?_) rfl (fun _ => trivial)
    rw [hrow] at hr; cases hr
    refine ⟨_, _, rfl, by omega, by omega, by omega, fun hc => ?_⟩
    rw [if_neg (by omega), q5 (by omega), Nat.add_mul, Nat.add_assoc]
  · cases e
theorem bounds3_run {hi mx : Value} {len cap : Nat} (h1 : ∃ k, hi = .int k 0) (h2 : ∃ k, mx = .int k 0) : (Instr.sliceBounds true len cap none (some hi) (some mx)).run P W = .ok (0, 0, 0) W := by
  obtain ⟨k, rfl⟩ := h1
  obtain ⟨k', rfl⟩ := h2
  have sb : ∀ (k : IntKind) (y : Nat) (code : BoundsCode), (Instr.sliceBound (.int k 0) y code).run P W = .ok 0 W := fun k y code => by
    simp [Instr.sliceBound, asIntOf]
  simp [Instr.sliceBounds, sb]
theorem sliceMx_good {t el : TypeId} {x : Operand} {x' : Opnd} {hi : Option Operand} {hi' : Option Opnd} {mx : Operand} {mx' : Opnd} {sz : Nat} {agg : Bool} (ho : o.op = .slice t x none hi (some mx)) (ht : P.underlying t = some (.slice el)) (hz : szOf P el = some (sz, agg)) (I : HInv W0 S0 M W S ρ st.heap) (E : EInv W S ρ st.heap st.env a) (hx : opn x = some x')
    (hhi : opnO hi = some hi') (hmx : opn mx = some mx')
    (e : stepI R key st (.slice (.sl sz agg) x' none hi' (some mx')) K = some r) : Good P W0 S0 M o a W S ρ st K r := by
  simp only [stepI, evO] at e
  replace e := ev_ok E hx e; obtain ⟨u, e, Ru⟩ := e
  replace e := evO_ok E hhi e; obtain ⟨hv', e, Rh⟩ := e
  replace e := ev_ok E hmx e; obtain ⟨mv, e, Rm⟩ := e
  obtain ⟨s1, s2, s3⟩ := szOf_run hz W
  replace e := optI_ok Rh e; obtain ⟨nh, e, h1⟩ := e
  replace e := getN_ok Rm e; obtain ⟨km, nm, hm, e⟩ := e
  replace e := when_some e; obtain ⟨hb, e⟩ := e
  obtain ⟨rfl, rfl⟩ := and_dec hb
  have run : ∀ {ad : Option Addr} {len cap : Nat}, a.eval x = .slice ad len cap → (execOp a.eval o).run P W = .ok (.value (.slice ad 0 0)) W := fun {ad len cap} hp => by
    cases hi with
    | none => simp only [Option.map_none, BndO] at h1; omega
    | some y =>
      have hr := bounds3_run (P := P) (W := W) (len := len) (cap := cap) h1 ⟨km, hm⟩
      simp [execOp, ho, Instr.sliceAt, Instr.slice, run_underlying ht, hp, hr, s1]
  split at e
  · generalize hxv : a.eval x = xv at Ru
    cases Ru with
    | nils ad => exact good_pure I e (run hxv) (.nils ad)
  · rename_i f
    replace e := when_some e; obtain ⟨hsl, e⟩ := e
    cases f <;> simp only [FV.isSl] at hsl <;> try cases hsl
    cases Ru with
    | fz Ru =>
    generalize hxv : a.eval x = xv at Ru
    cases Ru with
    | sl0 ad cap => exact good_pure I e (run hxv) (.nils _)
    | sl _ B off cap sz' agg' g hS hcap hfs hc hc1 hh => exact good_pure I e (run hxv) (.nils _)
  · cases e
end
end Go.Ab
end
section
namespace Go.Ab
section
variable {P : Program} {W0 W W' : World} {S0 M S : Nat → Prop} {ρ : Nat → Place} {h : Heap} {st : St} {a : Act} {β : Type} {r : β} {o : Oper} {K : LV → St → Option β} {key : Nat} {R : Nat → List TV → Option Ans}
structure News (W : World) (S : Nat → Prop) (sz : Nat) (agg : Bool) (ys : List FV) (news : List Value) : Prop where
  fits : ∀ f ∈ ys, f.fits sz agg = true
  len : news.length = ys.length * sz
  one : ∀ u ∈ news, u.oneCell' = true
  rep : ∀ (i : Nat) (f : FV) (j : Nat) (x : FV), ys[i]? = some f → f.cells[j]? = some x → Rep W S x (news.getD (i * sz + j) undef)
theorem News.mono {S' : Nat → Prop} (hS : ∀ b, S b → S' b) (hW : ∀ b, S b → W'.heap[b]? = W.heap[b]?) {sz : Nat} {agg : Bool} {ys : List FV} {news : List Value} (n : News W S sz agg ys news) : News W' S' sz agg ys news :=
  ⟨n.fits, n.len, n.one, fun i f j x h1 h2 => (n.rep i f j x h1 h2).mono hS hW⟩
theorem row_news {B off n sz : Nat} {agg : Bool} {ys : List FV} {g : Nat → Value} (hf : ∀ f ∈ ys, f.fits sz agg = true) (hn : ys.length = n) (hc : ∀ j, j < n * sz → W.cell? ⟨B, off + j, none⟩ = some (g j)) (h1 : ∀ j, j < n * sz → (g j).oneCell' = true)
    (hh : ∀ (i : Nat) (f : FV) (j : Nat) (x : FV), ys[i]? = some f → f.cells[j]? = some x → Rep W S x (g (i * sz + j))) :
    News W S sz agg ys ((List.range (n * sz)).map g) ∧ ∀ (j : Nat) (u : Value), ((List.range (n * sz)).map g)[j]? = some u → W.cell? ((⟨B, off, none⟩ : Addr).add j) = some u := by
  refine ⟨⟨hf, by simp [hn], fun u hu => ?_, fun i f j x hi hj => ?_⟩, fun j u hu => ?_⟩
  · obtain ⟨j, hj, rfl⟩ := List.mem_map.1 hu
    exact h1 j (List.mem_range.1 hj)
  · have hi' : i < n := by have := (List.getElem?_eq_some_iff.1 hi).1; omega
    have hj' : j < sz := by have := (List.getElem?_eq_some_iff.1 hj).1; rwa [fits_cells (hf f (List.mem_of_getElem? hi))] at this
    have hm : (i + 1) * sz ≤ n * sz := Nat.mul_le_mul_right sz hi'
    rw [Nat.add_mul, Nat.one_mul] at hm
    have hlt : i * sz + j < n * sz := by omega
    have : ((List.range (n * sz)).map g).getD (i * sz + j) undef = g (i * sz + j) := by simp [List.getD, hlt]
    rw [this]; exact hh i f j x hi hj
  · obtain ⟨hj, rfl⟩ := range_get hu
    rw [Addr.add_lit]; exact hc j hj
theorem RowAt.piece {p : Place} {sz : Nat} {agg : Bool} {xs : List FV} (A : RowAt W S p sz agg xs) {off len : Nat} (hle : off + len ≤ xs.length) :
    ∃ g : Nat → Value, (∀ f ∈ (xs.drop off).take len, f.fits sz agg = true) ∧ ((xs.drop off).take len).length = len ∧ (∀ j, j < len * sz → W.cell? ⟨p.B, p.off + off * sz + j, none⟩ = some (g j)) ∧ (∀ j, j < len * sz → (g j).oneCell' = true) ∧
      (∀ (i : Nat) (f : FV) (j : Nat) (x : FV), ((xs.drop off).take len)[i]? = some f → f.cells[j]? = some x → Rep W S x (g (i * sz + j))) := by
  obtain ⟨lt, hlen, fits, g, h1, h2, h3⟩ := A
  have hl : ((xs.drop off).take len).length = len := by simp; omega
  have hm : (off + len) * sz ≤ xs.length * sz := Nat.mul_le_mul_right sz hle
  have hm2 : xs.length * sz ≤ p.cap * sz := Nat.mul_le_mul_right sz hlen
  rw [Nat.add_mul] at hm
  have key : ∀ (i : Nat) (f : FV), ((xs.drop off).take len)[i]? = some f → xs[off + i]? = some f := fun i f hf => by
    rw [List.getElem?_take] at hf
    split at hf
    · rwa [List.getElem?_drop] at hf
    · cases hf
  exact ⟨fun j => g (off * sz + j), fun f hf => by obtain ⟨i, hi⟩ := List.getElem?_of_mem hf; exact fits f (List.mem_of_getElem? (key i f hi)), hl, fun j hj => by rw [Nat.add_assoc]; exact h1 _ (by omega), fun j hj => h2 _ (by omega),
    fun i f j x hi hj => by have := h3 (off + i) f j x (key i f hi) hj; rw [Nat.add_mul, Nat.add_assoc] at this; exact this⟩
theorem behind_ok {sz : Nat} {agg str : Bool} {y : LV} {yv : Value} {ty : TypeId} {K : List FV → Option β} (I : HInv W0 S0 M W S ρ h) (Ry : RepL W S ρ h y yv)
    (ht : match str with | true => P.underlying ty = some .string ∧ sz = 1 ∧ agg = false | false => ∃ e', P.underlying ty = some (.slice e')) (e : behind sz agg str h y K = some r) :
    ∃ ys news, K ys = some r ∧ News W S sz agg ys news ∧ Src P sz ty yv ys.length news W := by
  unfold behind at e
  cases str with
  | true =>
    simp only at e
    obtain ⟨ht, rfl, rfl⟩ := ht
    obtain ⟨s, rfl, e⟩ := getS_ok (st := ⟨[], h⟩) Ry e
    have hl : (s.data.toList.map fun b => FV.int .u8 b.toNat).length = s.size := by simp
    refine ⟨_, byteCells s, e, ⟨fun f hf => ?_, ?_, fun u hu => ?_, fun i f j x hi hj => ?_⟩, ?_⟩
    · obtain ⟨b, _, rfl⟩ := List.mem_map.1 hf; rfl
    · rw [byteCells_length, hl, Nat.mul_one]
    · obtain ⟨b, _, rfl⟩ := List.mem_map.1 hu; rfl
    · rw [List.getElem?_map] at hi
      obtain ⟨b, hb, rfl⟩ := Option.map_eq_some_iff.1 hi
      cases j with
      | succ j => simp [FV.cells] at hj
      | zero =>
        simp [FV.cells] at hj; subst hj
        have : (byteCells s).getD (i * 1 + 0) undef = .int .u8 b.toNat := by
          simp only [Nat.mul_one, Nat.add_zero, byteCells, List.getD, List.getElem?_map, hb]; rfl
        rw [this]; exact .int _ _
    · rw [hl]; exact Src.ofString W ht s
  | false =>
    simp only at e
    obtain ⟨e', ht⟩ := ht
    split at e
    · cases Ry with
      | nils ad =>
        refine ⟨_, [], e, ⟨fun _ h => (by cases h), by simp, fun _ h => (by cases h), fun i f j x hi _ => by simp at hi⟩, ?_⟩
        cases ad with
        | none => exact Src.ofNil W ht 0
        | some ad => exact Src.ofSlice W ht ad 0 0 [] (by simp) (fun j u hu => by simp at hu) (fun _ h => by cases h)
    · rename_i f
      replace e := when_some e; obtain ⟨hb, e⟩ := e
      simp only [Bool.and_eq_true] at hb
      obtain ⟨hsl, hall⟩ := hb
      cases f <;> simp only [FV.isSl] at hsl <;> try cases hsl
      rename_i es
      simp only [FV.toSl] at hall e
      have hfit : ∀ f ∈ es, f.fits sz agg = true := fun f hf => List.all_eq_true.1 hall f hf
      cases Ry with
      | fz Ry =>
      cases Ry with
      | sl0 ad cap =>
        refine ⟨_, [], e, ⟨fun _ h => (by cases h), by simp, fun _ h => (by cases h), fun i f j x hi _ => by simp at hi⟩, ?_⟩
        cases ad with
        | none => exact Src.ofNil W ht cap
        | some ad => exact Src.ofSlice W ht ad 0 cap [] (by simp) (fun j u hu => by simp at hu) (fun _ h => by cases h)
      | sl _ B off cap sz' agg' g hS hcap hfs hc hc1 hh =>
        by_cases hne : es = []
        · subst hne
          exact ⟨_, [], e, ⟨fun _ h => (by cases h), by simp, fun _ h => (by cases h), fun i f j x hi _ => by simp at hi⟩, Src.ofSlice W ht _ 0 cap [] (by simp) (fun j u hu => by simp at hu) (fun _ h => by cases h)⟩
        · obtain ⟨f, hf⟩ := List.exists_mem_of_ne_nil es hne
          obtain ⟨rfl, rfl⟩ := fits_unique (hfit f hf) (hfs f hf)
          obtain ⟨n1, n2⟩ := row_news hfit rfl hc hc1 hh
          exact ⟨_, _, e, n1, Src.ofSlice W ht _ _ _ _ n1.len n2 n1.one⟩
    · rename_i k
      replace e := rowLen_ok e; obtain ⟨b, sz', agg', xs, hb, hrow, e⟩ := e
      replace e := when_some e; obtain ⟨hs, e⟩ := e
      obtain ⟨rfl, rfl⟩ := and_eq hs
      cases Ry with
      | rw _ _ b' hb' hv _ =>
      rw [hb] at hb'; cases hb'
      rw [hv _ _ _ hrow]
      obtain ⟨g, g1, g2, g3, g4, g5⟩ := (rowOf_ok I hb hrow).piece (off := 0) (len := xs.length) (by omega)
      simp only [List.drop_zero, List.take_length, Nat.zero_mul, Nat.add_zero] at g1 g2 g3 g5
      obtain ⟨n1, n2⟩ := row_news g1 rfl g3 g4 g5
      exact ⟨_, _, e, n1, Src.ofSlice W ht _ _ _ _ n1.len n2 n1.one⟩
    · rename_i k off len
      replace e := rowLen_ok e; obtain ⟨b, sz', agg', xs, hb, hrow, e⟩ := e
      replace e := when_some e; obtain ⟨hs, e⟩ := e
      simp only [Bool.and_eq_true, beq_iff_eq] at hs
      obtain ⟨⟨rfl, rfl⟩, hle⟩ := hs
      have hle := Nat.le_of_ble_eq_true hle
      cases Ry with
      | loc _ _ _ _ b' hb' hv _ _ =>
      rw [hb] at hb'; cases hb'
      obtain ⟨o0, cap, rfl, q2, q3, q4, q5⟩ := hv _ _ _ hrow
      obtain ⟨g, g1, g2, g3, g4, g5⟩ := (rowOf_ok I hb hrow).piece hle
      obtain ⟨n1, n2⟩ := row_news g1 g2 g3 g4 g5
      refine ⟨_, _, e, n1, ?_⟩
      rw [g2]
      refine Src.ofSlice W ht _ _ _ _ (by rw [n1.len, g2]) (fun j u hu => ?_) n1.one
      by_cases h0 : len = 0
      · subst h0; simp at hu
      · obtain rfl := q5 (by omega)
        exact n2 j u hu
    · cases e
theorem front_ok {sz : Nat} {agg : Bool} {x : LV} {xv : Value} {K : List FV → Heap → Option β} (I : HInv W0 S0 M W S ρ h) (Rx : RepL W S ρ h x xv) (e : front sz agg h x K = some r) :
    ∃ xs h', K xs h' = some r ∧ HInv W0 S0 M W S ρ h' ∧ Later W S ρ h W S ρ h' ∧
      ((x = .nils ∧ xs = [] ∧ ∃ ad, xv = .slice ad 0 0) ∨ (isNils x = false ∧ ∃ B off cap, xv = .slice (some ⟨B, off, none⟩) xs.length cap ∧ RowAt W S ⟨B, off, cap⟩ sz agg xs ∧ Thaw W B off (cap * sz) ∧ ¬ S B ∧ (W0.heap.size ≤ B ∨ M B) ∧ ∀ k b, aget k h' = some b → b.owned = true → (ρ k).B ≠ B)) := by
  unfold front at e
  split at e
  · cases Rx with
    | nils ad => exact ⟨_, _, e, I, Later.refl _ _ _ _, .inl ⟨rfl, rfl, ad, rfl⟩⟩
  · rename_i k
    split at e
    · rename_i sz' agg' xs hb
      replace e := when_some e; obtain ⟨hs, e⟩ := e
      obtain ⟨rfl, rfl⟩ := and_eq hs
      obtain ⟨I', L⟩ := I.kill k hb
      obtain ⟨hnS, A, thaw⟩ := I.blk k _ hb
      cases Rx with
      | rw _ _ b' hb' hv _ =>
      rw [hb] at hb'; cases hb'
      refine ⟨_, _, e, I', L, .inr ⟨rfl, _, _, _, hv _ _ _ rfl, A, thaw, hnS, I.own k _ hb rfl, fun k' b' hk' ho => ?_⟩⟩
      rw [aget_aset] at hk'
      by_cases ek : k = k'
      · rw [if_pos ek] at hk'; cases hk'; cases ho
      · rw [if_neg ek] at hk'
        exact I.dis k' k b' _ hk' hb ho rfl (fun x => ek x.symm)
    · cases e
  · rename_i k off len
    split at e
    · rename_i sz' agg' xs hb
      replace e := when_some e; obtain ⟨hs, e⟩ := e
      simp only [Bool.and_eq_true, beq_iff_eq] at hs
      obtain ⟨⟨rfl, rfl⟩, hle⟩ := hs
      have hle := Nat.le_of_ble_eq_true hle
      obtain ⟨I', L⟩ := I.kill k hb
      obtain ⟨hnS, A, thaw⟩ := I.blk k _ hb
      cases Rx with
      | loc _ _ _ _ b' hb' hv _ _ =>
      rw [hb] at hb'; cases hb'
      obtain ⟨o0, cap, rfl, q2, q3, q4, q5⟩ := hv _ _ _ rfl
      obtain ⟨g, g1, g2, g3, g4, g5⟩ := A.piece hle
      have hm : (off + cap) * sz ≤ (ρ k).cap * sz := Nat.mul_le_mul_right sz q4
      rw [Nat.add_mul] at hm
      obtain ⟨lt, hlen, fits, gg, c1, c2, c3⟩ := A
      have hml : (off + len) * sz ≤ xs.length * sz := Nat.mul_le_mul_right sz q2
      rw [Nat.add_mul] at hml
      refine ⟨_, _, e, I', L, .inr ⟨rfl, _, o0, cap, by rw [g2], ⟨lt, by rw [g2]; exact q3, g1, ?_⟩, fun j hj => ?_, hnS, I.own k _ hb rfl, fun k' b' hk' ho => ?_⟩⟩
      · by_cases h0 : cap = 0
        · subst h0
          have hl0 : len = 0 := by omega
          subst hl0
          refine ⟨fun _ => undef, fun j hj => by simp at hj, fun j hj => by rw [g2] at hj; simp at hj, fun i f j y hi _ => ?_⟩
          have := (List.getElem?_eq_some_iff.1 hi).1
          rw [g2] at this; omega
        · obtain rfl := q5 (by omega)
          refine ⟨fun j => gg (off * sz + j), fun j hj => by simp only at hj ⊢; rw [Nat.add_assoc]; exact c1 _ (by omega), fun j hj => by rw [g2] at hj; exact c2 _ (by omega), fun i f j y hi hj => ?_⟩
          have : xs[off + i]? = some f := by
            rw [List.getElem?_take] at hi
            split at hi
            · rwa [List.getElem?_drop] at hi
            · cases hi
          have := c3 (off + i) f j y this hj
          rw [Nat.add_mul, Nat.add_assoc] at this; exact this
      · by_cases h0 : cap = 0
        · subst h0; simp at hj
        · obtain rfl := q5 (by omega)
          have := thaw (off * sz + j) (by omega)
          rwa [← Nat.add_assoc] at this
      · rw [aget_aset] at hk'
        by_cases ek : k = k'
        · rw [if_pos ek] at hk'; cases hk'; cases ho
        · rw [if_neg ek] at hk'
          exact I.dis k' k b' _ hk' hb ho rfl (fun x => ek x.symm)
    · cases e
  · cases e
theorem zeroCells_size (z : Array Value) (n : Nat) : (Builtin.zeroCells z n).size = n * z.size := by simp [Builtin.zeroCells]
theorem append_good {t ty el : TypeId} {x y : Operand} {x' y' : Opnd} {sz : Nat} {agg str : Bool} {i : TypeInfo} {z : Value} (ho : o.op = .call { callee := .builtin .append, args := #[x, y], argTypes := #[t, ty] }) (ht : P.underlying t = some (.slice el)) (hz : szOf P el = some (sz, agg)) (hi : P.info? el = some i) (hz0 : i.zero = some z) (hzs : z.cells.size = sz)
    (hty : match str with | true => P.underlying ty = some .string ∧ sz = 1 ∧ agg = false | false => ∃ e', P.underlying ty = some (.slice e')) (I : HInv W0 S0 M W S ρ st.heap) (E : EInv W S ρ st.heap st.env a) (hx : opn x = some x') (hy : opn y = some y')
    (e : stepI R key st (.append sz agg i.bytes str x' y') K = some r) : Good P W0 S0 M o a W S ρ st K r := by
  simp only [stepI] at e
  replace e := ev_ok E hx e; obtain ⟨u, e, Ru⟩ := e
  replace e := ev_ok E hy e; obtain ⟨w, e, Rw⟩ := e
  replace e := behind_ok I Rw hty e; obtain ⟨ys, news, e, N, Sc⟩ := e
  replace e := front_ok I Ru e; obtain ⟨xs, h', e, I1, L1, hcase⟩ := e
  replace e := when_some e; obtain ⟨hroom, e⟩ := e
  obtain ⟨b1, b2⟩ := and_dec hroom
  simp only [roomy] at b1 b2
  obtain ⟨s1, s2, s3⟩ := szOf_run hz W
  have hsize : i.size = sz := by
    have := s1; simp [sizeOf, typeInfo, hi] at this; exact this
  have run0 : ∀ {v : Value} {W'' : World}, (Builtin.append_ #[t, ty] o.type #[a.eval x, a.eval y]).run P W = .ok v W'' → (execOp a.eval o).run P W = .ok (.value v) W'' := fun {v W''} hr => by
    simp [execOp, ho, resolve, invoke, builtin, hr]
  -- a new row
  have grow : ∀ (base : Option Addr) (cap : Nat) (olds : List Value), a.eval x = .slice base xs.length cap → News W S sz agg xs olds → (Builtin.firstCells i.size xs.length (.slice base xs.length cap)).run P W.drew = .ok olds.toArray W.drew → cap < xs.length + ys.length →
      (match aget key h' with | none => K (.rw key) { st with heap := aset key (.row sz agg (xs ++ ys)) h' } | some _ => none) = some r → Good P W0 S0 M o a W S ρ st K r := by
    intro base cap olds hxv NO hold hlt e
    split at e
    · rename_i hk
      have hcap2 := nextslicecap_le hlt
      have hfit : Builtin.nextslicecap (xs.length + ys.length) cap * i.bytes ≤ 281474976710656 := by
        have := Nat.mul_le_mul_right i.bytes hcap2
        rw [Nat.mul_assoc] at this; omega
      have hrun := run_append_grow_src (P := P) W t ty o.type el i z ht hi hz0 base xs.length cap olds hold (a.eval y) ys.length news (by rw [hsize]; exact Sc) hlt (by omega) hfit
      have hneed : xs.length + ys.length ≤ grownCap W (xs.length + ys.length) cap el := by
        exact Nat.le_add_right _ _
      generalize grownCap W (xs.length + ys.length) cap el = gc at hrun hneed
      have hol : olds.length = xs.length * sz := NO.len
      have hnl : news.length = ys.length * sz := N.len
      have hcs : ((olds ++ news).toArray ++ Builtin.zeroCells z.cells (gc - (xs.length + ys.length))).size = gc * sz := by
        rw [Array.size_append, zeroCells_size, hzs, List.size_toArray, List.length_append, hol, hnl, ← Nat.add_mul, ← Nat.add_mul]
        congr 1; omega
      have get : ∀ j, j < (xs.length + ys.length) * sz → ((olds ++ news).toArray ++ Builtin.zeroCells z.cells (gc - (xs.length + ys.length))).getD j undef = (olds ++ news).getD j undef := fun j hj => by
        have h2 : j < (olds ++ news).length := by rw [List.length_append, hol, hnl, ← Nat.add_mul]; exact hj
        rw [Array.getD_eq_getD_getElem?, Array.getElem?_append_left (by simpa using h2)]
        simp [List.getD]
      obtain ⟨I2, L2, Rv⟩ := I1.newRow (key := key) (xs := xs ++ ys) (cap := gc) (sz := sz) (agg := agg) hk (by simpa using hneed) (fun f hf => (List.mem_append.1 hf).elim (NO.fits f) (N.fits f)) hcs
        (fun j hj => by
          rw [List.length_append] at hj
          rw [get j hj]
          have h2 : j < (olds ++ news).length := by rw [List.length_append, hol, hnl, ← Nat.add_mul]; exact hj
          rw [List.getD, List.getElem?_eq_getElem h2]
          exact (List.mem_append.1 (List.getElem_mem h2)).elim (NO.one _) (N.one _))
        (fun k f j y hk hj => by
          have hfk : f.fits sz agg = true := (List.mem_append.1 (List.mem_of_getElem? hk)).elim (NO.fits f) (N.fits f)
          have hjs : j < sz := by have := (List.getElem?_eq_some_iff.1 hj).1; rwa [fits_cells hfk] at this
          have hkl : k < xs.length + ys.length := by have := (List.getElem?_eq_some_iff.1 hk).1; simpa using this
          have hm : (k + 1) * sz ≤ (xs.length + ys.length) * sz := Nat.mul_le_mul_right sz hkl
          rw [Nat.add_mul k 1, Nat.one_mul] at hm
          rw [get _ (by omega)]
          by_cases hkx : k < xs.length
          · rw [List.getElem?_append_left hkx] at hk
            have hm2 : (k + 1) * sz ≤ xs.length * sz := Nat.mul_le_mul_right sz hkx
            rw [Nat.add_mul, Nat.one_mul] at hm2
            rw [List.getD, List.getElem?_append_left (by rw [hol]; omega)]
            exact NO.rep k f j y hk hj
          · rw [List.getElem?_append_right (by omega)] at hk
            have hsub : k * sz = xs.length * sz + (k - xs.length) * sz := by rw [← Nat.add_mul]; congr 1; omega
            rw [List.getD, List.getElem?_append_right (by rw [hol]; omega), hol, show k * sz + j - xs.length * sz = (k - xs.length) * sz + j by omega]
            exact N.rep (k - xs.length) f j y hk hj) (Grown.drew W _ el) (fun j _ hc => by simp at hc)
      refine ⟨_, _, e, rfl, ?_⟩
      unfold OpRes; rw [run0 (by rw [hxv]; exact hrun)]
      refine ⟨S, _, I2, L1.trans L2, ?_⟩
      rw [List.length_append] at Rv; exact Rv
    · cases e
  rcases hcase with ⟨rfl, rfl, ad, hxv⟩ | ⟨hnn, B, off, cap, hxv, A, thaw, hnS, hown, hdis⟩
  · cases hys : ys with
    | nil =>
      subst hys
      simp only [isNils, List.isEmpty_nil, Bool.and_self] at e
      have hnews : news = [] := by have := N.len; simpa using this
      subst hnews
      refine good_pure I e (run0 ?_) (.nils ad)
      rw [hxv]
      exact run_append_nothing W t ty o.type el i ht hi ad 0 0 (Nat.le_refl _) (a.eval y) (by rw [hsize]; exact Sc)
    | cons y0 ys0 =>
      have hemp : (isNils LV.nils && ys.isEmpty) = false := by rw [hys]; rfl
      rw [hemp] at e
      simp only at e
      exact grow ad 0 [] hxv ⟨fun _ h => (by cases h), by simp, fun _ h => (by cases h), fun i f j x hi _ => by simp at hi⟩ (by cases ad with
        | none => exact run_firstCells_none W.drew i.size 0 0 0
        | some ad => exact run_firstCells_some W.drew i.size 0 ad 0 0 [] (by simp) (fun j u hu => by simp at hu)) (by rw [hys]; simp) e
  · rw [hnn] at e
    simp only [Bool.false_and] at e
    obtain ⟨g, g1, g2, g3, g4, g5⟩ := A.piece (off := 0) (len := xs.length) (by omega)
    simp only [List.drop_zero, List.take_length, Nat.zero_mul, Nat.add_zero] at g1 g2 g3 g5
    obtain ⟨n1, n2⟩ := row_news g1 rfl g3 g4 g5
    by_cases hlt : cap < xs.length + ys.length
    · exact grow _ cap _ hxv n1 (run_firstCells_some W.drew i.size xs.length _ _ cap _ (by rw [n1.len, hsize]) (fun j u hu => n2 j u hu)) hlt e
    · split at e
      · rename_i hk
        have hroom2 : xs.length + ys.length ≤ cap := by omega
        have hmc : (xs.length + ys.length) * sz ≤ cap * sz := Nat.mul_le_mul_right sz hroom2
        rw [Nat.add_mul] at hmc
        have hnl : news.length = ys.length * sz := N.len
        obtain ⟨lt, hlen, fits, gg, c1, c2, c3⟩ := A
        simp only at lt hlen c1 c2
        have there : ∀ j, j < news.length → (W.cell? ⟨B, off + xs.length * sz + j, none⟩).isSome = true := fun j hj => by
          rw [Nat.add_assoc, c1 _ (by omega)]; rfl
        have hrun := run_append_room_src (P := P) W t ty o.type el i ht hi B off xs.length cap (a.eval y) ys.length news (by rw [hsize]; exact Sc) hroom2 (by rw [hsize]; exact there)
          (fun j hj => by rw [hsize, Nat.add_assoc]; exact thaw _ (by omega))
        rw [hsize] at hrun
        have get := setCells_get W B (off + xs.length * sz) news there
        have pk := setCells_poke W B (off + xs.length * sz) news
        obtain ⟨I2, L2⟩ := I1.poke pk (fun k hk' => by subst hk'; exact hown) (fun k hk' => by subst hk'; exact hnS) (fun k b hb ho => hdis k b hb ho)
        obtain ⟨I3, L3⟩ := I2.add (key := key) (p := ⟨B, off, cap⟩) (b := .row sz agg (xs ++ ys)) hk rfl hown hdis (fun ρ' h'' L => by
          refine ⟨hnS, ⟨by rw [(setCells_size _ _ _ _).1]; exact lt, by simpa using hroom2, fun f hf => (List.mem_append.1 hf).elim (fits f) (N.fits f), fun k => if k < xs.length * sz then gg k else if k < xs.length * sz + news.length then news.getD (k - xs.length * sz) undef else gg k, fun k hk' => ?_, fun k hk' => ?_, fun k f j y hk' hj => ?_⟩, fun j hj => by rw [World.frozen?_setCells]; exact thaw j hj⟩
          · simp only at hk' ⊢
            rw [get]
            by_cases q1 : k < xs.length * sz
            · rw [if_neg (by omega), if_pos q1]; exact c1 k hk'
            · rw [if_neg q1]
              by_cases q2 : k < xs.length * sz + news.length
              · rw [if_pos (by omega), if_pos q2, show off + k - (off + xs.length * sz) = k - xs.length * sz by omega]
                have : k - xs.length * sz < news.length := by omega
                simp [List.getD, List.getElem?_eq_getElem this]
              · rw [if_neg (by omega), if_neg q2]; exact c1 k hk'
          · rw [List.length_append, Nat.add_mul] at hk'
            dsimp only
            by_cases q1 : k < xs.length * sz
            · rw [if_pos q1]; exact c2 k q1
            · rw [if_neg q1, if_pos (by omega)]
              have : k - xs.length * sz < news.length := by omega
              rw [List.getD, List.getElem?_eq_getElem this]
              exact N.one _ (List.getElem_mem _)
          · have hfk : f.fits sz agg = true := (List.mem_append.1 (List.mem_of_getElem? hk')).elim (fits f) (N.fits f)
            have hjs : j < sz := by have := (List.getElem?_eq_some_iff.1 hj).1; rwa [fits_cells hfk] at this
            dsimp only
            by_cases hkx : k < xs.length
            · rw [List.getElem?_append_left hkx] at hk'
              have hm2 : (k + 1) * sz ≤ xs.length * sz := Nat.mul_le_mul_right sz hkx
              rw [Nat.add_mul, Nat.one_mul] at hm2
              rw [if_pos (by omega)]
              exact (c3 k f j y hk' hj).mono L2.s L2.w
            · have hkl : k < xs.length + ys.length := by have := (List.getElem?_eq_some_iff.1 hk').1; simpa using this
              rw [List.getElem?_append_right (by omega)] at hk'
              have hsub : k * sz = xs.length * sz + (k - xs.length) * sz := by rw [← Nat.add_mul]; congr 1; omega
              have hm3 : (k - xs.length + 1) * sz ≤ ys.length * sz := Nat.mul_le_mul_right sz (by omega)
              rw [Nat.add_mul, Nat.one_mul] at hm3
              rw [if_neg (by omega), if_pos (by omega), show k * sz + j - xs.length * sz = (k - xs.length) * sz + j by omega]
              exact (N.rep (k - xs.length) f j y hk' hj).mono L2.s L2.w)
        refine ⟨_, _, e, rfl, ?_⟩
        unfold OpRes; rw [run0 (by rw [hxv]; exact hrun)]
        refine ⟨S, _, I3, L1.trans (L2.trans L3), .rw key _ (.row sz agg (xs ++ ys)) (by rw [aget_aset, if_pos rfl]) (fun s g zs hr => ?_) rfl⟩
        cases hr
        simp [upd]
      · cases e
end
end Go.Ab
end
section
namespace Go.Ab
section
variable {P : Program} {W0 W W' : World} {S0 M S : Nat → Prop} {ρ : Nat → Place} {h : Heap} {st : St} {a : Act} {β : Type} {r : β} {o : Oper} {K : LV → St → Option β} {key : Nat} {R : Nat → List TV → Option Ans}
theorem fcst1_ok {v : Value} {f : FV} (e : fcst1 v = some f) : Rep W S f v ∧ v.oneCell' = true := by
  unfold fcst1 at e
  split at e <;> cases e
  · exact ⟨.int _ _, rfl⟩
  · exact ⟨.bool _, rfl⟩
  · exact ⟨.str _, rfl⟩
  · exact ⟨.nilp, rfl⟩
  · exact ⟨.sl0 _ _, rfl⟩
theorem fcsts_ok : ∀ {vs : List Value} {l : List FV}, fcsts vs = some l → l.length = vs.length ∧ (∀ v ∈ vs, v.oneCell' = true) ∧ ∀ (j : Nat) (e : FV) (v : Value), l[j]? = some e → vs[j]? = some v → Rep W S e v
  | [], l, e => by
    simp only [fcsts] at e; cases e
    exact ⟨rfl, fun _ h => (by cases h), fun j e v he _ => by simp at he⟩
  | v :: r, l, e => by
    simp only [fcsts] at e
    split at e <;> cases e
    rename_i x l' h1 h2
    obtain ⟨a, b, c⟩ := fcsts_ok h2
    obtain ⟨d1, d2⟩ := fcst1_ok (W := W) (S := S) h1
    refine ⟨by simp [a], fun u hu => ?_, fun j e v he hv => ?_⟩
    · rcases List.mem_cons.1 hu with rfl | hu
      · exact d2
      · exact b u hu
    · cases j with
      | zero => simp at he hv; subst he; subst hv; exact d1
      | succ j => exact c j e v (by simpa using he) (by simpa using hv)
theorem fcst_ok {v : Value} {f : FV} (e : fcst v = some f) : Rep W S f v := by
  unfold fcst at e
  split at e
  · rename_i vs
    obtain ⟨cs, hc, rfl⟩ := Option.map_eq_some_iff.1 e
    obtain ⟨a, b, c⟩ := fcsts_ok (W := W) (S := S) hc
    exact .ag cs vs (by simpa using a.symm) (fun j v hv => b v (List.mem_of_getElem? (by simpa using hv : vs.toList[j]? = some v))) (fun j e v he hv => c j e v he (by simpa using hv))
  · exact (fcst1_ok e).1
theorem made_get {z : Array Value} {n i j : Nat} (hj : j < z.size) (hk : i * z.size + j < n) : (madeCells z n).getD (i * z.size + j) undef = z.getD j undef := by
  have hm : (i * z.size + j) % z.size = j := by rw [Nat.add_comm, Nat.add_mul_mod_self_right, Nat.mod_eq_of_lt hj]
  have h1 : i * z.size + j < (madeCells z n).size := by rw [size_madeCells]; exact hk
  rw [Array.getD_eq_getD_getElem?, Array.getElem?_eq_getElem h1]
  simp only [madeCells, Option.getD_some, Array.getElem_map, Array.getElem_range, hm]
  rw [getElem!_pos z j hj, Array.getD_eq_getD_getElem?, Array.getElem?_eq_getElem hj]; rfl
theorem mkSl_good {t el : TypeId} {x y : Operand} {x' y' : Opnd} {sz : Nat} {agg : Bool} {i : TypeInfo} {z0 : Value} {z : FV} (ho : o.op = .makeSlice t x y) (ht : P.underlying t = some (.slice el)) (hz : szOf P el = some (sz, agg)) (hi : P.info? el = some i) (hz0 : i.zero = some z0) (hzf : fcst z0 = some z) (hfit : z.fits sz agg = true) (I : HInv W0 S0 M W S ρ st.heap) (E : EInv W S ρ st.heap st.env a) (hx : opn x = some x') (hy : opn y = some y')
    (e : stepI R key st (.mkSl sz agg i.bytes z x' y') K = some r) : Good P W0 S0 M o a W S ρ st K r := by
  simp only [stepI] at e
  replace e := ev_ok E hx e; obtain ⟨u, e, Ru⟩ := e
  replace e := ev_ok E hy e; obtain ⟨w, e, Rw⟩ := e
  replace e := getN_ok Ru e; obtain ⟨k1, l, hl, e⟩ := e
  replace e := getN_ok Rw e; obtain ⟨k2, c, hc, e⟩ := e
  replace e := when_some e; obtain ⟨hb, e⟩ := e
  simp only [Bool.and_eq_true, decide_eq_true_eq] at hb
  obtain ⟨b1, b2, b3, b4⟩ := hb
  have b3' : (i.bytes : Int) * c ≤ 140737488355328 := b3
  have b4' : c ≤ 140737488355328 := b4
  split at e
  · rename_i hk
    have hrun := run_make (P := P) W t el i z0 ht hi hz0 k1 k2 l c b1 b2 (by omega) (by omega)
    have hsize : i.size = sz := by
      have := (szOf_run hz W).1; simp [sizeOf, typeInfo, hi] at this; exact this
    rw [hsize] at hrun
    obtain ⟨d1, d2, d3⟩ := rep_cells (W := W) (S := S) hfit (fcst_ok hzf)
    have get : ∀ k j, k < c.toNat → j < sz → (madeCells z0.cells (c.toNat * sz)).getD (k * sz + j) undef = z0.cells.getD j undef := fun k j hk hj => by
      have hm : (k + 1) * sz ≤ c.toNat * sz := Nat.mul_le_mul_right sz hk
      rw [Nat.add_mul, Nat.one_mul] at hm
      have := made_get (z := z0.cells) (n := c.toNat * sz) (i := k) (j := j) (by rw [d1]; exact hj) (by rw [d1]; omega)
      rwa [d1] at this
    obtain ⟨I2, L2, Rv⟩ := I.newRow (key := key) (xs := List.replicate l.toNat z) (cap := c.toNat) (sz := sz) (agg := agg) hk (by simp; omega) (fun f hf => by rw [List.eq_of_mem_replicate hf]; exact hfit) (size_madeCells _ _)
      (fun j hj => by
        rw [List.length_replicate] at hj
        by_cases h0 : sz = 0
        · subst h0; simp at hj
        · have hd : j = j / sz * sz + j % sz := by rw [Nat.mul_comm]; exact (Nat.div_add_mod j sz).symm
          have hq : j / sz < l.toNat := Nat.div_lt_of_lt_mul (by rw [Nat.mul_comm]; exact hj)
          rw [hd, get _ _ (by omega) (Nat.mod_lt _ (by omega))]
          have hjm : j % sz < z0.cells.size := by rw [d1]; exact Nat.mod_lt _ (by omega)
          have : z0.cells[j % sz]? = some (z0.cells.getD (j % sz) undef) := by simp [Array.getD, hjm]
          exact d2 _ (List.mem_of_getElem? (by simpa using this : z0.cells.toList[j % sz]? = _)))
      (fun k f j y hk hj => by
        have hkl : k < l.toNat := by have := (List.getElem?_eq_some_iff.1 hk).1; simpa using this
        have : f = z := List.eq_of_mem_replicate (List.mem_of_getElem? hk)
        subst this
        have hjs : j < sz := by have := (List.getElem?_eq_some_iff.1 hj).1; rwa [fits_cells hfit] at this
        rw [get _ _ (by omega) hjs]
        exact d3 j y _ hj (by simp [Array.getD, d1, hjs])) (Grown.alloc W _ el) (fun j _ hc => by simp at hc)
    refine ⟨_, _, e, rfl, ?_⟩
    unfold OpRes
    have : (execOp a.eval o).run P W = .ok (.value (.slice (some ⟨W.heap.size, 0, none⟩) l.toNat c.toNat)) (W.alloc (.cells (madeCells z0.cells (c.toNat * sz)) el)) := by
      simp [execOp, ho, hl, hc, hrun]
    rw [this]
    refine ⟨S, _, I2, L2, ?_⟩
    rw [List.length_replicate] at Rv; exact Rv
  · cases e
theorem fold_set : ∀ (ds : List Value) (k off : Nat) (cs : Array Value), off + k + ds.length ≤ cs.size → (ds.zipIdx k).foldl (fun cs (c, j) => cs.setIfInBounds (off + j) c) cs = splice cs (off + k) ds.toArray
  | [], k, off, cs, h => by
    simp [splice]
  | d :: ds, k, off, cs, h => by
    simp only [List.zipIdx_cons, List.foldl_cons]
    simp only [List.length_cons] at h
    rw [fold_set ds (k + 1) off _ (by simp; omega)]
    apply Array.ext_getElem?
    intro i
    rw [splice_get (by simp; omega), splice_get (by simp; omega)]
    simp only [List.size_toArray, List.length_cons, Array.getElem?_setIfInBounds]
    by_cases h1 : i < off + k
    · rw [if_pos (by omega), if_pos h1, if_neg (by omega)]
    · rw [if_neg h1]
      by_cases h2 : i = off + k
      · subst h2
        rw [if_pos (by omega), if_pos rfl, if_pos (by omega), if_pos (by omega)]
        simp
      · rw [if_neg (by omega)]
        by_cases h3 : i < off + k + (ds.length + 1)
        · rw [if_pos (by omega), if_pos h3]
          simp only [List.getElem?_toArray]
          rw [show i - (off + k) = (i - (off + (k + 1))) + 1 by omega]
          simp
        · rw [if_neg (by omega), if_neg h3, if_neg (by omega)]
theorem fill_step (cs ds : Array Value) (off : Nat) (h : off + ds.size ≤ cs.size) : ds.zipIdx.foldl (fun cs (c, j) => cs.setIfInBounds (off + j) c) cs = splice cs off ds := by
  have := fold_set ds.toList 0 off cs (by simpa using h)
  rw [← Array.foldl_toList, Array.toList_zipIdx]
  simpa using this
def partsOk (P : Program) (place : Nat → Option (Nat × Nat)) : List (Nat × Operand) → List (Nat × Nat × Bool × Opnd) → Prop
  | [], [] => True
  | (i, x) :: r, (off, n, agg, y) :: r' => place i = some (off, n) ∧ (agg = false → n = 1) ∧ opn x = some y ∧ partsOk P place r r'
  | _, _ => False
theorem putParts_ok {place : Nat → Option (Nat × Nat)} {m : Nat} (E : EInv W S ρ st.heap st.env a) : ∀ (ps : List (Nat × Operand)) (qs : List (Nat × Nat × Bool × Opnd)) (v : LV) (cells : Array Value) {K : LV → Option β}, partsOk P place ps qs → cells.size = m → RepL W S ρ st.heap v (.agg cells) → putParts st m v qs K = some r →
    ∃ u cells', K u = some r ∧ Instr.fill place cells (ps.map fun p => (p.1, a.eval p.2)) = some cells' ∧ RepL W S ρ st.heap u (.agg cells')
  | [], [], v, cells, K, _, hs, Rv, e => ⟨v, cells, e, rfl, Rv⟩
  | (i, x) :: ps, (off, n, agg, y) :: qs, v, cells, K, hp, hs, Rv, e => by
    obtain ⟨h1, h2, h3, h4⟩ := hp
    simp only [putParts] at e
    replace e := ev_ok E h3 e; obtain ⟨w, e, Rw⟩ := e
    obtain ⟨u, vs, hk, hvs, hsz, hle, d1, d2, hf, Ru, _⟩ := putPart_ok h2 Rv Rw e
    cases hvs
    obtain ⟨u', cells', hk', hfill, Ru'⟩ := putParts_ok E ps qs u _ h4 (by rw [splice_size (by rw [d1]; omega)]; exact hs) Ru hk
    refine ⟨u', cells', hk', ?_, Ru'⟩
    simp only [List.map_cons, Instr.fill, h1]
    rw [if_neg (by simp [d1]; omega), fill_step _ _ _ (by rw [d1]; omega)]
    exact hfill
  | [], _ :: _, _, _, _, hp, _, _, _ => hp.elim
  | _ :: _, [], _, _, _, hp, _, _, _ => hp.elim
theorem build_good {t : TypeId} {parts : Array (Nat × Operand)} {qs : List (Nat × Nat × Bool × Opnd)} {n : Nat} {z : List LV} {zv : Array Value} {place : Nat → Option (Nat × Nat)} (ho : o.op = .build t parts) (hz : csts zv.toList = some z) (hn : zv.size = n)
    (hb : ∀ ps, P.built t ps = Instr.fill place zv ps) (hp : partsOk P place parts.toList qs) (I : HInv W0 S0 M W S ρ st.heap) (E : EInv W S ρ st.heap st.env a)
    (e : stepI R key st (.build n z qs) K = some r) : Good P W0 S0 M o a W S ρ st K r := by
  simp only [stepI] at e
  obtain ⟨z1, z2, z3⟩ := csts_ok (W := W) (S := S) (ρ := ρ) (h := st.heap) hz
  have Rz : RepL W S ρ st.heap (mkAg z) (.agg zv) := mkAg_ok (by simpa using z1.symm) (fun j v hv => z2 v (List.mem_of_getElem? (by simpa using hv : zv.toList[j]? = some v))) (fun j e v he hv => z3 j e v he (by simpa using hv))
  replace e := putParts_ok (P := P) (place := place) E parts.toList qs _ zv hp hn Rz e
  obtain ⟨u, cells', e, hfill, Ru⟩ := e
  refine good_pure I e ?_ Ru
  have := run_build (P := P) W t (parts.map fun (i, x) => (i, a.eval x)) cells' (by rw [hb]; simpa using hfill)
  simp [execOp, ho, this]
end
end Go.Ab
end
section
namespace Go.Ab
section
variable {P : Program} {W0 W W' : World} {S0 M S : Nat → Prop} {ρ : Nat → Place} {h : Heap} {st : St} {a : Act} {β : Type} {r : β} {o : Oper} {K : LV → St → Option β} {key : Nat} {R : Nat → List TV → Option Ans}
def opns : List (Nat × Operand) → Option (List (Nat × Opnd))
  | [] => some []
  | (i, x) :: r => match opn x, opns r with | some y, some l => some ((i, y) :: l) | _, _ => none
def PartsL (W : World) (S : Nat → Prop) (ρ : Nat → Place) (h : Heap) (a : Act) : List (Nat × Operand) → List (Nat × LV) → Prop
  | [], [] => True
  | (i, x) :: r, (j, v) :: l => i = j ∧ RepL W S ρ h v (a.eval x) ∧ PartsL W S ρ h a r l
  | _, _ => False
def PartsF (W : World) (S : Nat → Prop) (a : Act) : List (Nat × Operand) → List (Nat × FV) → Prop
  | [], [] => True
  | (i, x) :: r, (j, v) :: l => i = j ∧ Rep W S v (a.eval x) ∧ PartsF W S a r l
  | _, _ => False
theorem PartsL.later {S' : Nat → Prop} {ρ' : Nat → Place} {h' : Heap} (L : Later W S ρ h W' S' ρ' h') : ∀ {ps : List (Nat × Operand)} {l : List (Nat × LV)}, PartsL W S ρ h a ps l → PartsL W' S' ρ' h' a ps l
  | [], [], _ => trivial
  | (_, _) :: _, (_, _) :: _, ⟨h1, h2, h3⟩ => ⟨h1, h2.later L, h3.later L⟩
  | [], _ :: _, hh => hh.elim
  | _ :: _, [], hh => hh.elim
theorem evParts_ok (E : EInv W S ρ st.heap st.env a) : ∀ (ps : List (Nat × Operand)) (qs : List (Nat × Opnd)) {K : List (Nat × LV) → Option β}, opns ps = some qs → evParts st qs K = some r → ∃ l, K l = some r ∧ PartsL W S ρ st.heap a ps l
  | [], qs, K, hq, e => by cases hq; exact ⟨[], e, trivial⟩
  | (i, x) :: ps, qs, K, hq, e => by
    simp only [opns] at hq
    split at hq <;> cases hq
    rename_i y l h1 h2
    simp only [evParts] at e
    replace e := ev_ok E h1 e; obtain ⟨v, e, Rv⟩ := e
    obtain ⟨l', hk, hp⟩ := evParts_ok E ps l h2 e
    exact ⟨_, hk, rfl, Rv, hp⟩
theorem frzO_ok : ∀ (ps : List (Nat × Operand)) (l : List (Nat × LV)) (S : Nat → Prop) (h : Heap) {K : List (Nat × FV) → Heap → Option β}, HInv W0 S0 M W S ρ h → PartsL W S ρ h a ps l → frzO h l K = some r →
    ∃ fs h' S', K fs h' = some r ∧ HInv W0 S0 M W S' ρ h' ∧ Later W S ρ h W S' ρ h' ∧ PartsF W S' a ps fs
  | [], [], S, h, K, I, _, e => ⟨[], h, S, e, I, Later.refl _ _ _ _, trivial⟩
  | (i, x) :: ps, (j, v) :: l, S, h, K, I, hp, e => by
    obtain ⟨rfl, Rv, hp⟩ := hp
    simp only [frzO] at e
    obtain ⟨f, h1, S1, e1, I1, L1, Rf, _⟩ := frz_ok 5 S h v (a.eval x) _ I Rv e
    obtain ⟨fs, h2, S2, e2, I2, L2, hfs⟩ := frzO_ok ps l S1 h1 I1 (hp.later L1) e1
    exact ⟨_, h2, S2, e2, I2, L1.trans L2, rfl, Rf.mono L2.s L2.w, hfs⟩
  | [], _ :: _, _, _, _, _, hp, _ => hp.elim
  | _ :: _, [], _, _, _, _, hp, _ => hp.elim
structure RowC (W : World) (S : Nat → Prop) (sz : Nat) (agg : Bool) (len : Nat) (xs : List FV) (cs : Array Value) : Prop where
  ln : xs.length = len
  fits : ∀ f ∈ xs, f.fits sz agg = true
  size : cs.size = len * sz
  one : ∀ (j : Nat) (u : Value), cs[j]? = some u → u.oneCell' = true
  rep : ∀ (i : Nat) (f : FV) (j : Nat) (x : FV), xs[i]? = some f → f.cells[j]? = some x → Rep W S x (cs.getD (i * sz + j) undef)
theorem RowC.set {sz len : Nat} {agg : Bool} {xs : List FV} {cs : Array Value} (C : RowC W S sz agg len xs cs) {i : Nat} {f : FV} {x : Value} (hi : i < len) (hf : f.fits sz agg = true) (Rf : Rep W S f x) : RowC W S sz agg len (xs.set i f) (splice cs (i * sz) x.cells) ∧ x.cells.size = sz ∧ i * sz + sz ≤ cs.size := by
  obtain ⟨d1, d2, d3⟩ := rep_cells hf Rf
  have hm : (i + 1) * sz ≤ len * sz := Nat.mul_le_mul_right sz hi
  rw [Nat.add_mul, Nat.one_mul] at hm
  have hle : i * sz + x.cells.size ≤ cs.size := by rw [d1, C.size]; exact hm
  have get := splice_get hle
  refine ⟨⟨by simp [C.ln], fun g hg => ?_, by rw [splice_size hle, C.size], fun j u hu => ?_, fun i' g j y hi' hj => ?_⟩, d1, by rw [C.size]; exact hm⟩
  · rcases List.mem_or_eq_of_mem_set hg with h | rfl
    · exact C.fits g h
    · exact hf
  · rw [get] at hu
    split at hu
    · exact C.one j u hu
    · split at hu
      · exact d2 u (List.mem_of_getElem? (by simpa using hu : x.cells.toList[_]? = some u))
      · exact C.one j u hu
  · by_cases hii : i' = i
    · subst hii
      rw [List.getElem?_set_self (by rw [C.ln]; exact hi)] at hi'
      cases hi'
      have hjs : j < sz := by have := (List.getElem?_eq_some_iff.1 hj).1; rwa [fits_cells hf] at this
      rw [Array.getD_eq_getD_getElem?, get, if_neg (by omega), if_pos (by omega), show i' * sz + j - i' * sz = j by omega]
      have : x.cells[j]? = some (x.cells.getD j undef) := by simp [Array.getD, d1, hjs]
      rw [this]; exact d3 j y _ hj this
    · rw [List.getElem?_set_ne (fun e => hii e.symm)] at hi'
      have hjs : j < sz := by have := (List.getElem?_eq_some_iff.1 hj).1; rwa [fits_cells (C.fits g (List.mem_of_getElem? hi'))] at this
      have hap := elem_apart (off := 0) (n := sz) hii hjs (by omega)
      have := C.rep i' g j y hi' hj
      rw [Array.getD_eq_getD_getElem?] at this ⊢
      rw [get]
      by_cases q : i' * sz + j < i * sz
      · rw [if_pos q]; exact this
      · rw [if_neg q, if_neg (by omega)]; exact this
theorem fill_row {sz len : Nat} {agg : Bool} : ∀ (ps : List (Nat × Operand)) (fs : List (Nat × FV)) (xs : List FV) (cs : Array Value), RowC W S sz agg len xs cs → PartsF W S a ps fs → (fs.all fun p => p.2.fits sz agg && Nat.blt p.1 len) = true →
    ∃ cs', Instr.fill (fun i => some (i * sz, sz)) cs (ps.map fun p => (p.1, a.eval p.2)) = some cs' ∧ RowC W S sz agg len (sets xs fs) cs'
  | [], [], xs, cs, C, _, _ => ⟨cs, rfl, C⟩
  | (i, x) :: ps, (j, f) :: fs, xs, cs, C, hp, hall => by
    obtain ⟨rfl, Rf, hp⟩ := hp
    simp only [List.all_cons, Bool.and_eq_true] at hall
    obtain ⟨⟨h1, h2⟩, h3⟩ := hall
    obtain ⟨C', d1, d2⟩ := C.set (by simpa using h2) h1 Rf
    obtain ⟨cs', hfill, C2⟩ := fill_row ps fs _ _ C' hp h3
    refine ⟨cs', ?_, C2⟩
    simp only [List.map_cons, Instr.fill]
    rw [if_neg (by simp [d1]; omega), fill_step _ _ _ (by rw [d1]; omega)]
    exact hfill
  | [], _ :: _, _, _, _, hp, _ => hp.elim
  | _ :: _, [], _, _, _, hp, _ => hp.elim
theorem buildSl_good {t el : TypeId} {parts : Array (Nat × Operand)} {qs : List (Nat × Opnd)} {len sz : Nat} {agg : Bool} {i : TypeInfo} {z0 : Value} {z : FV} (ho : o.op = .buildSlice t len parts) (ht : P.underlying t = some (.slice el)) (hz : szOf P el = some (sz, agg)) (hi : P.info? el = some i) (hz0 : i.zero = some z0) (hzf : fcst z0 = some z) (hfit : z.fits sz agg = true)
    (hmax : len * sz ≤ 16777216) (hq : opns parts.toList = some qs) (I : HInv W0 S0 M W S ρ st.heap) (E : EInv W S ρ st.heap st.env a)
    (e : stepI R key st (.buildSl sz agg len z qs) K = some r) : Good P W0 S0 M o a W S ρ st K r := by
  simp only [stepI] at e
  replace e := evParts_ok E _ _ hq e; obtain ⟨l, e, hl⟩ := e
  replace e := frzO_ok _ _ _ _ I hl e; obtain ⟨fs, h', S', e, I1, L1, hfs⟩ := e
  replace e := when_some e; obtain ⟨hall, e⟩ := e
  split at e
  · rename_i hk
    obtain ⟨s1, s2, s3⟩ := szOf_run hz W
    obtain ⟨d1, d2, d3⟩ := rep_cells (W := W) (S := S') hfit (fcst_ok hzf)
    let zero : Array Value := if len * sz = 0 then #[] else z0.cells
    have C0 : RowC W S' sz agg len (List.replicate len z) ((Array.range (len * sz)).map (zero[· % zero.size]!)) := by
      by_cases h0 : len * sz = 0
      · refine ⟨by simp, fun f hf => by rw [List.eq_of_mem_replicate hf]; exact hfit, by simp, fun j u hu => ?_, fun i f j y hi hj => ?_⟩
        · rw [h0] at hu; simp at hu
        · have hil : i < len := by have := (List.getElem?_eq_some_iff.1 hi).1; simpa using this
          have : f = z := List.eq_of_mem_replicate (List.mem_of_getElem? hi)
          subst this
          have hjs : j < sz := by have := (List.getElem?_eq_some_iff.1 hj).1; rwa [fits_cells hfit] at this
          have : 0 < len * sz := Nat.mul_pos (by omega) (by omega)
          omega
      · have hzero : zero = z0.cells := by simp only [zero]; rw [if_neg h0]
        have hmade : (Array.range (len * sz)).map (zero[· % zero.size]!) = madeCells z0.cells (len * sz) := by rw [hzero]; rfl
        rw [hmade]
        have get : ∀ k j, k < len → j < sz → (madeCells z0.cells (len * sz)).getD (k * sz + j) undef = z0.cells.getD j undef := fun k j hk hj => by
          have hm : (k + 1) * sz ≤ len * sz := Nat.mul_le_mul_right sz hk
          rw [Nat.add_mul, Nat.one_mul] at hm
          have := made_get (z := z0.cells) (n := len * sz) (i := k) (j := j) (by rw [d1]; exact hj) (by rw [d1]; omega)
          rwa [d1] at this
        refine ⟨by simp, fun f hf => by rw [List.eq_of_mem_replicate hf]; exact hfit, size_madeCells _ _, fun j u hu => ?_, fun i f j y hi hj => ?_⟩
        · have hj : j < len * sz := by have := (Array.getElem?_eq_some_iff.1 hu).1; rwa [size_madeCells] at this
          have hd : j = j / sz * sz + j % sz := by rw [Nat.mul_comm]; exact (Nat.div_add_mod j sz).symm
          have hsz : 0 < sz := by
            rcases Nat.eq_zero_or_pos sz with h | h
            · subst h; simp at h0
            · exact h
          have hq : j / sz < len := Nat.div_lt_of_lt_mul (by rw [Nat.mul_comm]; exact hj)
          have hg := get _ _ hq (Nat.mod_lt j hsz)
          rw [← hd, Array.getD_eq_getD_getElem?, hu] at hg
          simp only [Option.getD_some] at hg
          subst hg
          have hjm : j % sz < z0.cells.size := by rw [d1]; exact Nat.mod_lt _ hsz
          have : z0.cells[j % sz]? = some (z0.cells.getD (j % sz) undef) := by simp [Array.getD, hjm]
          exact d2 _ (List.mem_of_getElem? (by simpa using this : z0.cells.toList[j % sz]? = _))
        · have hil : i < len := by have := (List.getElem?_eq_some_iff.1 hi).1; simpa using this
          have : f = z := List.eq_of_mem_replicate (List.mem_of_getElem? hi)
          subst this
          have hjs : j < sz := by have := (List.getElem?_eq_some_iff.1 hj).1; rwa [fits_cells hfit] at this
          rw [get _ _ hil hjs]
          exact d3 j y _ hj (by simp [Array.getD, d1, hjs])
    obtain ⟨cs', hfill, C⟩ := fill_row parts.toList fs _ _ C0 hfs hall
    obtain ⟨I2, L2, Rv⟩ := I1.newRow (key := key) (xs := sets (List.replicate len z) fs) (cap := len) (sz := sz) (agg := agg) (c := cs') hk (by rw [C.ln]; exact Nat.le_refl _) C.fits C.size
      (fun j hj => by
        rw [C.ln] at hj
        have : cs'[j]? = some (cs'.getD j undef) := by have := C.size; simp [Array.getD, this, hj]
        exact C.one j _ this) C.rep (Grown.alloc W cs' el) (fun j _ hc => by simp at hc)
    refine ⟨_, _, e, rfl, ?_⟩
    have hrun : (execOp a.eval o).run P W = .ok (.value (.slice (some ⟨W.heap.size, 0, none⟩) len len)) (W.alloc (.cells cs' el)) := by
      have hzv : (zeroValue el).run P W = .ok z0 W := by simp [zeroValue, typeInfo, hi, hz0]
      have hfill' : Instr.fill (fun i => some (i * sz, sz)) ((Array.range (len * sz)).map (zero[· % zero.size]!)) (parts.map fun (i, x) => (i, a.eval x)).toList = some cs' := by simpa using hfill
      have h24 : ¬ len * sz > 2 ^ 24 := by simp; omega
      simp only [execOp, ho, Instr.buildSlice, Sem.run_bind, run_underlying ht, Result.andThen_ok, s1]
      rw [if_neg h24]
      by_cases h0 : len * sz = 0
      · simp only [zero, if_pos h0] at hfill'
        rw [if_pos h0]
        simp only [Sem.run_bind, Sem.run_pure, Result.andThen_ok, hfill', newRow, run_newObj]
        rfl
      · simp only [zero, if_neg h0] at hfill'
        rw [if_neg h0]
        simp only [Sem.run_bind, hzv, Sem.run_pure, Result.andThen_ok, hfill', newRow, run_newObj]
        rfl
    unfold OpRes; rw [hrun]
    refine ⟨S', _, I2, L1.trans L2, ?_⟩
    rw [C.ln] at Rv; exact Rv
  · cases e
end
end Go.Ab
end
section
namespace Go.Ab
def ρ00 : Nat → Place := fun _ => ⟨0, 0, 0⟩
def RepT (W : World) (S : Nat → Prop) (t : TV) (x : Value) (B : Option Nat) : Prop :=
  match t with
  | .fz e => B = none ∧ Rep W S e x
  | .em => B = none ∧ ∃ a, x = .slice a 0 0
  | .uq sz agg xs => ∃ p : Place, B = some p.B ∧ x = .slice (some ⟨p.B, p.off, none⟩) xs.length p.cap ∧ RowAt W S p sz agg xs ∧ Thaw W p.B p.off (p.cap * sz) ∧ ¬ S p.B
  | .pv n agg v => ∃ b, B = some b ∧ x = .pointer (some ⟨b, 0, none⟩) ∧ VarAt W S ρ00 [] b n agg v ∧ Thaw W b 0 n ∧ ¬ S b ∧ closed 3 v = true
def RepTs (W : World) (S : Nat → Prop) : List TV → List Value → List Nat → Prop
  | [], [], Bs => Bs = []
  | t :: ts, x :: xs, Bs => ∃ B Bs', RepT W S t x B ∧ RepTs W S ts xs Bs' ∧ (match B with | none => Bs = Bs' | some b => Bs = b :: Bs' ∧ b ∉ Bs')
  | _, _, _ => False
def Backs (W : World) (S : Nat → Prop) : List TV → List Value → List LV → Prop
  | [], [], vs => vs = []
  | .pv n agg _ :: ts, x :: xs, vs => ∃ b v vs', vs = v :: vs' ∧ x = .pointer (some ⟨b, 0, none⟩) ∧ VarAt W S ρ00 [] b n agg v ∧ Thaw W b 0 n ∧ ¬ S b ∧ closed 3 v = true ∧ Backs W S ts xs vs'
  | _ :: ts, _ :: xs, vs => Backs W S ts xs vs
  | _, _, _ => False
def oneV (ys : List Value) : Value := match ys with | [y] => y | ys => .tuple ys.toArray
structure AnsOk (W : World) (S : Nat → Prop) (ts : List TV) (args : List Value) (Bs : List Nat) (r : Ans) (v : Value) (W' : World) : Prop where
  ans : ∃ (S' : Nat → Prop) (ys : List Value) (Cs : List Nat), v = oneV ys ∧ (∀ b, S b → S' b) ∧ (∀ b, S' b → S b ∨ W.heap.size ≤ b ∨ b ∈ Bs) ∧ (∀ b, S' b → b < W'.heap.size) ∧
    RepTs W' S' r.1 ys Cs ∧ (∀ c ∈ Cs, W.heap.size ≤ c ∨ c ∈ Bs) ∧ Backs W' S' ts args r.2 ∧ (∀ (t : TV) (x : Value) (b : Nat) (n : Nat) (agg : Bool) (u : LV), (t, x) ∈ ts.zip args → t = .pv n agg u → x = .pointer (some ⟨b, 0, none⟩) → b ∉ Cs)
  ext : Ext W (· ∈ Bs) W'
def GlobOK (P : Program) (W : World) (S : Nat → Prop) : Prop := ∀ g, P.globals.findIdx? (·.name == "internal/bytealg.MaxLen") = some g → S g ∧ ∃ m : Int, W.cell? ⟨g, 0, none⟩ = some (.int .i64 m)
theorem GlobOK.none {P : Program} {W : World} {S : Nat → Prop} (h : P.globals.findIdx? (·.name == "internal/bytealg.MaxLen") = Option.none) : GlobOK P W S := fun g hg => by rw [h] at hg; cases hg
theorem GlobOK.mono {P : Program} {W W' : World} {S S' : Nat → Prop} (h : GlobOK P W S) (hS : ∀ b, S b → S' b) (hW : ∀ b, S b → W'.heap[b]? = W.heap[b]?) : GlobOK P W' S' := fun g hg => by
  obtain ⟨h1, m, h2⟩ := h g hg
  exact ⟨hS g h1, m, (cell_same (hW g h1)).trans h2⟩
structure Base (P : Program) (W0 : World) (S0 M : Nat → Prop) : Prop where
  lt : ∀ b, S0 b → b < W0.heap.size
  nm : ∀ b, S0 b → ¬ M b
  glob : GlobOK P W0 S0
theorem Base.now {P : Program} {W0 W : World} {S0 M S : Nat → Prop} {ρ : Nat → Place} {h : Heap} (B : Base P W0 S0 M) (I : HInv W0 S0 M W S ρ h) : GlobOK P W S := B.glob.mono I.sub fun b hb => I.ext.block b (B.lt b hb) (B.nm b hb)
def CallOK (P : Program) (f : FuncId) (ts : List TV) (r : Ans) : Prop :=
  ∀ (W : World) (S : Nat → Prop) (args : Array Value) (Bs : List Nat), (∀ b, S b → b < W.heap.size) → GlobOK P W S → RepTs W S ts args.toList Bs →
    Calls P f args W fun
      | .returned v, W' => AnsOk W S ts args.toList Bs r v W'
      | _, _ => False
def OkR (P : Program) (R : Nat → List TV → Option Ans) : Prop := ∀ f ts r, R f ts = some r → (∃ fn, P.funcs[f]? = some fn ∧ (fn.name == "runtime.NumGoroutine") = false ∧ fn.body.isNone = false) ∧ CallOK P f ts r
def OkB (P : Program) (R : Nat → List TV → Option Ans) (W0 : World) (S0 M : Nat → Prop) : Prop := OkR P R ∧ Base P W0 S0 M
section
variable {P : Program} {W0 W W' : World} {S0 M S S' : Nat → Prop} {ρ ρ' : Nat → Place} {h h' : Heap} {st : St} {a : Act} {β : Type} {r : β} {o : Oper} {K : LV → St → Option β} {key : Nat} {R : Nat → List TV → Option Ans}
theorem closed_rep (hS : ∀ b, S b → S' b) (hW : ∀ b, S b → W'.heap[b]? = W.heap[b]?) : ∀ (m : Nat) (v : LV) (x : Value), closed m v = true → RepL W S ρ h v x → RepL W' S' ρ' h' v x
  | 0, _, _, hc, _ => by cases hc
  | m + 1, v, x, hc, R => by
    cases R with
    | fz R => exact .fz (R.mono hS hW)
    | nils a => exact .nils a
    | ag cs vs hl h1 hh =>
      simp only [closed] at hc
      exact .ag cs vs hl h1 (fun j e v he hv => closed_rep hS hW m e v (List.all_eq_true.1 hc e (List.mem_of_getElem? he)) (hh j e v he hv))
    | rw _ _ _ _ _ _ => cases hc
    | loc _ _ _ _ _ _ _ _ _ => cases hc
    | ptr _ _ _ _ _ _ _ _ _ => cases hc
    | tup _ _ _ _ => cases hc
    | clo _ _ _ _ _ => cases hc
theorem VarAt.closed (hS : ∀ b, S b → S' b) (hW : ∀ b, S b → W'.heap[b]? = W.heap[b]?) {B n : Nat} {agg : Bool} {v : LV} (hp : W'.heap[B]? = W.heap[B]?) (hs : W.heap.size ≤ W'.heap.size) (hc : closed 3 v = true) (V : VarAt W S ρ h B n agg v) : VarAt W' S' ρ' h' B n agg v := by
  obtain ⟨lt, fits, g, h1, h2, h3⟩ := V
  exact ⟨Nat.lt_of_lt_of_le lt hs, fits, g, fun j hj => (cell_same hp).trans (h1 j hj), h2, closed_rep hS hW 3 v _ hc h3⟩
theorem nodupB_iff : ∀ {l : List Nat}, nodupB l = true ↔ l.Nodup
  | [] => by simp [nodupB]
  | k :: l => by simp [nodupB, nodupB_iff (l := l)]
theorem evs_ok (E : EInv W S ρ st.heap st.env a) : ∀ (xs : List Operand) (ys : List Opnd) {K : List LV → Option β}, xs.map opn = ys.map some → evs st ys K = some r → ∃ vs, K vs = some r ∧ vs.length = xs.length ∧ ∀ (j : Nat) (v : LV) (x : Operand), vs[j]? = some v → xs[j]? = some x → RepL W S ρ st.heap v (a.eval x)
  | [], ys, K, hq, e => by
    cases ys with
    | nil => exact ⟨[], e, rfl, fun j v x hv _ => by simp at hv⟩
    | cons y ys => simp at hq
  | x :: xs, ys, K, hq, e => by
    cases ys with
    | nil => simp at hq
    | cons y ys =>
    simp only [List.map_cons, List.cons.injEq] at hq
    simp only [evs] at e
    replace e := ev_ok E hq.1 e; obtain ⟨v, e, Rv⟩ := e
    obtain ⟨vs, hk, hl, hr⟩ := evs_ok E xs ys hq.2 e
    refine ⟨_, hk, by simp [hl], fun j v' x' hv hx => ?_⟩
    cases j with
    | zero => simp at hv hx; subst hv; subst hx; exact Rv
    | succ j => exact hr j v' x' (by simpa using hv) (by simpa using hx)
def RepG (W : World) (S : Nat → Prop) (ρ : Nat → Place) (h : Heap) : List GV → List Value → Prop
  | [], [] => True
  | .f e :: r, x :: xs => Rep W S e x ∧ RepG W S ρ h r xs
  | .v v _ :: r, x :: xs => RepL W S ρ h v x ∧ RepG W S ρ h r xs
  | _, _ => False
theorem RepG.later (L : Later W S ρ h W' S' ρ' h') : ∀ {gs : List GV} {xs : List Value}, RepG W S ρ h gs xs → RepG W' S' ρ' h' gs xs
  | [], [], _ => trivial
  | .f _ :: _, _ :: _, ⟨h1, h2⟩ => ⟨h1.mono L.s L.w, h2.later L⟩
  | .v _ _ :: _, _ :: _, ⟨h1, h2⟩ => ⟨h1.later L, h2.later L⟩
  | [], _ :: _, hh => hh.elim
  | .f _ :: _, [], hh => hh.elim
  | .v _ _ :: _, [], hh => hh.elim
theorem chill_ok {h : Heap} {v : LV} {x : Value} {K : Heap → Option β} (I : HInv W0 S0 M W S ρ h) (Rv : RepL W S ρ h v x) (e : chill h v K = some r) :
    ∃ h' S', K h' = some r ∧ HInv W0 S0 M W S' ρ h' ∧ Later W S ρ h W S' ρ h' := by
  have same : K h = some r → ∃ h' S', K h' = some r ∧ HInv W0 S0 M W S' ρ h' ∧ Later W S ρ h W S' ρ h' := fun e => ⟨h, S, e, I, Later.refl _ _ _ _⟩
  unfold chill at e
  split at e
  · rename_i key i off
    split at e
    · rename_i n agg u hk
      split at e
      · exact same e
      · obtain ⟨hnS, hoff, V, thaw⟩ := I.blk key _ hk
        obtain ⟨g, c1, c2, RV⟩ := V.cells
        obtain ⟨f, h', S', e, I', L, Rf, hfit⟩ := frz_ok 5 S h u _ _ I RV e
        split at e
        · rename_i n' agg' u' hk'
          obtain ⟨_, b', hb', hle⟩ := L.dom key _ hk
          rw [hk'] at hb'; cases hb'
          have hna : n' = n ∧ agg' = agg := by
            rcases hle with h0 | ⟨_, _, _, _, h0, _⟩ | ⟨_, _, h0, h1⟩
            · cases h0
            · cases h0
            · cases h0; cases h1; exact ⟨rfl, rfl⟩
          obtain ⟨rfl, rfl⟩ := hna
          obtain ⟨hnS', _, _, thaw'⟩ := I'.blk key _ hk'
          have L2 : Later W S' ρ h' W S' ρ (aset key (.var n' agg' (.fz f)) h') := ⟨fun _ h => h, fun _ _ => rfl, fun k c hc => by
            refine ⟨rfl, ?_⟩
            by_cases e : key = k
            · subst e
              rw [hk'] at hc; cases hc
              exact ⟨_, by rw [aget_aset, if_pos rfl], .inr (.inr ⟨_, _, rfl, rfl⟩)⟩
            · exact ⟨c, by rw [aget_aset, if_neg e]; exact hc, c.le_refl⟩⟩
          have old : ∀ k c, aget k (aset key (.var n' agg' (.fz f)) h') = some c → ∃ c', aget k h' = some c' ∧ (c.owned = true → c'.owned = true) := fun k c hc => by
            rw [aget_aset] at hc
            by_cases e : key = k
            · subst e
              exact ⟨_, hk', fun _ => rfl⟩
            · rw [if_neg e] at hc; exact ⟨c, hc, fun h => h⟩
          refine ⟨_, S', e, ⟨I'.ext, I'.sub, I'.sup, I'.lt, fun k c hc => ?_, fun k c hc hco => ?_, fun k k' c c' hc hc' h1 h2 hne => ?_⟩, L.trans L2⟩
          · rw [aget_aset] at hc
            by_cases e : key = k
            · subst e
              rw [if_pos rfl] at hc; cases hc
              exact ⟨hnS', hoff, ⟨V.lt, hfit _ _ V.fits, g, c1, c2, .fz Rf⟩, thaw⟩
            · rw [if_neg e] at hc
              exact (I'.blk k c hc).later L2 rfl (Nat.le_refl _) (fun h _ => h)
          · obtain ⟨d, hd, ho⟩ := old k c hc
            exact I'.own k d hd (ho hco)
          · obtain ⟨d, hd, ho⟩ := old k c hc
            obtain ⟨d', hd', ho'⟩ := old k' c' hc'
            exact I'.dis k k' d d' hd hd' (ho h1) (ho' h2) hne
        · cases e
    · exact same e
  · exact same e
theorem chills_ok : ∀ (ks : List Nat) (S : Nat → Prop) (h : Heap) {K : Heap → Option β}, HInv W0 S0 M W S ρ h → (∀ k ∈ ks, ∃ b, aget k h = some b) → chills h ks K = some r →
    ∃ h' S', K h' = some r ∧ HInv W0 S0 M W S' ρ h' ∧ Later W S ρ h W S' ρ h'
  | [], S, h, K, I, _, e => ⟨h, S, e, I, Later.refl _ _ _ _⟩
  | k :: ks, S, h, K, I, hd, e => by
    simp only [chills] at e
    obtain ⟨b, hb⟩ := hd k List.mem_cons_self
    obtain ⟨h1, S1, e1, I1, L1⟩ := chill_ok I (x := .pointer (some ⟨(ρ k).B, (ρ k).off, none⟩)) (.ptr k 0 0 _ b hb (fun sz agg xs hx => by rw [Nat.zero_mul]; rfl) (fun n agg hx => ⟨rfl, rfl⟩) rfl) e
    obtain ⟨h2, S2, e2, I2, L2⟩ := chills_ok ks S1 h1 I1 (fun k' hk' => by
      obtain ⟨b', hb'⟩ := hd k' (List.mem_cons_of_mem _ hk')
      obtain ⟨_, b2, hb2, _⟩ := L1.dom k' b' hb'
      exact ⟨b2, hb2⟩) e1
    exact ⟨h2, S2, e2, I2, L1.trans L2⟩
theorem gives_ok : ∀ (l : List (LV × Mode)) (xs : List Value) (S : Nat → Prop) (h : Heap) {K : List GV → Heap → Option β}, xs.length = l.length → HInv W0 S0 M W S ρ h → (∀ (j : Nat) (p : LV × Mode) (x : Value), l[j]? = some p → xs[j]? = some x → RepL W S ρ h p.1 x) → gives h l K = some r →
    ∃ gs h' S', K gs h' = some r ∧ HInv W0 S0 M W S' ρ h' ∧ Later W S ρ h W S' ρ h' ∧ RepG W S' ρ h' gs xs
  | [], xs, S, h, K, hl, I, _, e => by
    cases xs with
    | nil => exact ⟨[], h, S, e, I, Later.refl _ _ _ _, trivial⟩
    | cons x xs => simp at hl
  | (v, m) :: l, xs, S, h, K, hl, I, hv, e => by
    cases xs with
    | nil => simp at hl
    | cons x xs =>
    have Rv := hv 0 (v, m) x rfl rfl
    simp only [gives] at e
    have other : ∀ m : Mode, gives h l (fun l h' => K (.v v m :: l) h') = some r → ∃ gs h' S', K gs h' = some r ∧ HInv W0 S0 M W S' ρ h' ∧ Later W S ρ h W S' ρ h' ∧ RepG W S' ρ h' gs (x :: xs) := fun m e => by
      obtain ⟨gs, h2, S2, e2, I2, L2, R2⟩ := gives_ok l xs S h (by simpa using hl) I (fun j p x hj hx => hv (j + 1) p x hj hx) e
      exact ⟨_, h2, S2, e2, I2, L2, Rv.later L2, R2⟩
    cases m with
    | fz =>
      obtain ⟨f, h1, S1, e1, I1, L1, Rf, _⟩ := frz_ok 5 S h v x _ I Rv e
      obtain ⟨gs, h2, S2, e2, I2, L2, R2⟩ := gives_ok l xs S1 h1 (by simpa using hl) I1 (fun j p x hj hx => (hv (j + 1) p x hj hx).later L1) e1
      exact ⟨_, h2, S2, e2, I2, L1.trans L2, Rf.mono L2.s L2.w, R2⟩
    | uq sz agg => exact other _ e
    | pv n agg =>
      obtain ⟨h1, S1, e1, I1, L1⟩ := chill_ok I Rv e
      obtain ⟨gs, h2, S2, e2, I2, L2, R2⟩ := gives_ok l xs S1 h1 (by simpa using hl) I1 (fun j p x hj hx => (hv (j + 1) p x hj hx).later L1) e1
      exact ⟨_, h2, S2, e2, I2, L1.trans L2, (Rv.later L1).later L2, R2⟩
theorem fills_ok (I : HInv W0 S0 M W S ρ h) : ∀ (gs : List GV) (xs : List Value) {K : List TV → List Nat → Option β}, RepG W S ρ h gs xs → fills h gs K = some r →
    ∃ ts ks, K ts ks = some r ∧ (ks.Nodup → RepTs W S ts xs (ks.map fun k => (ρ k).B)) ∧ (∀ k ∈ ks, ∃ b, aget k h = some b ∧ b.owned = true) ∧ (ts.all TV.lends = true → ∀ k ∈ ks, ∃ n agg v, aget k h = some (.var n agg v)) ∧ ts.length = xs.length ∧
      (ts.all TV.lends = true → ∀ (hF : Heap) (W2 : World) (S2 : Nat → Prop) (vs : List LV), Backs W2 S2 ts xs vs → vs.length = ks.length ∧ ∀ (j k : Nat) (v : LV), ks[j]? = some k → vs[j]? = some v → ∃ n agg u, aget k h = some (.var n agg u) ∧ VarAt W2 S2 ρ00 [] (ρ k).B n agg v ∧ Thaw W2 (ρ k).B 0 n ∧ ¬ S2 (ρ k).B ∧ closed 3 v = true)
  | [], xs, K, hR, e => by
    cases xs with
    | nil => exact ⟨[], [], e, fun _ => rfl, fun k hk => (by cases hk), fun _ k hk => (by cases hk), rfl, fun _ hF W2 S2 vs hb => by cases hb; exact ⟨rfl, fun j k v hk _ => by simp at hk⟩⟩
    | cons x xs => exact hR.elim
  | g :: gs, xs, K, hR, e => by
    cases xs with
    | nil => cases g <;> exact hR.elim
    | cons x xs =>
    -- a value with no block
    have plain : ∀ (t : TV), RepT W S t x none → (∀ n agg v, t ≠ .pv n agg v) → fills h gs (fun ts ks => K (t :: ts) ks) = some r → RepG W S ρ h gs xs →
        ∃ ts ks, K ts ks = some r ∧ (ks.Nodup → RepTs W S ts (x :: xs) (ks.map fun k => (ρ k).B)) ∧ (∀ k ∈ ks, ∃ b, aget k h = some b ∧ b.owned = true) ∧ (ts.all TV.lends = true → ∀ k ∈ ks, ∃ n agg v, aget k h = some (.var n agg v)) ∧ ts.length = (x :: xs).length ∧
        (ts.all TV.lends = true → ∀ (hF : Heap) (W2 : World) (S2 : Nat → Prop) (vs : List LV), Backs W2 S2 ts (x :: xs) vs → vs.length = ks.length ∧ ∀ (j k : Nat) (v : LV), ks[j]? = some k → vs[j]? = some v → ∃ n agg u, aget k h = some (.var n agg u) ∧ VarAt W2 S2 ρ00 [] (ρ k).B n agg v ∧ Thaw W2 (ρ k).B 0 n ∧ ¬ S2 (ρ k).B ∧ closed 3 v = true) := fun t ht hnp e hR2 => by
      obtain ⟨ts, ks, e, h1, h2, h3, h4, h5⟩ := fills_ok I gs xs hR2 e
      refine ⟨t :: ts, ks, e, fun hn => ⟨none, _, ht, h1 hn, rfl⟩, h2, fun hall => h3 (by simp only [List.all_cons, Bool.and_eq_true] at hall; exact hall.2), by simp [h4], fun hall hF W2 S2 vs hb => ?_⟩
      simp only [List.all_cons, Bool.and_eq_true] at hall
      refine h5 hall.2 hF W2 S2 vs ?_
      cases t with
      | pv n agg v => exact absurd rfl (hnp n agg v)
      | fz e => exact hb
      | em => exact hb
      | uq sz agg xs => exact hb
    cases g with
    | f fe =>
      simp only [fills] at e
      exact plain (.fz fe) ⟨rfl, hR.1⟩ (fun _ _ _ h => by cases h) e hR.2
    | v v m =>
      simp only [fills] at e
      obtain ⟨Rv, hR2⟩ := hR
      cases m with
      | fz => cases e
      | pv _ _ =>
        simp only at e
        split at e
        · rename_i fe
          replace e := when_some e; obtain ⟨_, e⟩ := e
          cases Rv with
          | fz Rv => exact plain (.fz fe) ⟨rfl, Rv⟩ (fun _ _ _ h => by cases h) e hR2
        · rename_i k i off
          replace e := when_some e; obtain ⟨hio, e⟩ := e
          obtain ⟨rfl, rfl⟩ : i = 0 ∧ off = 0 := by simpa using hio
          split at e
          · rename_i n agg u hk
            replace e := when_some e; obtain ⟨hcl, e⟩ := e
            obtain ⟨ts, ks, e, h1, h2, h3, h4, h5⟩ := fills_ok I gs xs hR2 e
            obtain ⟨hnS, hoff, V, thaw⟩ := I.blk k _ hk
            cases Rv with
            | ptr _ _ _ _ b hb hv hu hone =>
            rw [hk] at hb; cases hb
            obtain ⟨_, hx⟩ := hu _ _ rfl
            rw [hoff] at hx
            have V0 : VarAt W S ρ00 [] (ρ k).B n agg u := V.closed (fun _ h => h) (fun _ _ => rfl) rfl (Nat.le_refl _) hcl
            refine ⟨_, _, e, fun hn => ?_, fun k' hk' => ?_, fun hall k' hk' => ?_, by simp [h4], fun hall hF W2 S2 vs hb => ?_⟩
            · rw [List.nodup_cons] at hn
              refine ⟨some (ρ k).B, _, ⟨_, rfl, hx, V0, thaw, hnS, hcl⟩, h1 hn.2, rfl, fun hm => ?_⟩
              obtain ⟨k', hk', he⟩ := List.mem_map.1 hm
              obtain ⟨b', hb', ho'⟩ := h2 k' hk'
              exact I.dis k' k b' _ hb' hk ho' rfl (fun x => hn.1 (x ▸ hk')) he
            · rcases List.mem_cons.1 hk' with rfl | hk'
              · exact ⟨_, hk, rfl⟩
              · exact h2 k' hk'
            · simp only [List.all_cons, Bool.and_eq_true] at hall
              rcases List.mem_cons.1 hk' with rfl | hk'
              · exact ⟨_, _, _, hk⟩
              · exact h3 hall.2 k' hk'
            · simp only [List.all_cons, Bool.and_eq_true] at hall
              obtain ⟨b, v, vs', rfl, hx', q1, q2, q3, q4, q5⟩ := hb
              rw [hx] at hx'
              cases hx'
              obtain ⟨p1, p2⟩ := h5 hall.2 hF W2 S2 vs' q5
              refine ⟨by simp [p1], fun j k' v' hj hv' => ?_⟩
              cases j with
              | zero => simp at hj hv'; subst hj; subst hv'; exact ⟨n, agg, u, hk, q1, q2, q3, q4⟩
              | succ j => exact p2 j k' v' (by simpa using hj) (by simpa using hv')
          · cases e
        · cases e
      | uq sz agg =>
        simp only at e
        split at e
        · cases Rv with
          | nils ad => exact plain .em ⟨rfl, ad, rfl⟩ (fun _ _ _ h => by cases h) e hR2
        · rename_i k
          split at e
          · rename_i sz' agg' ys hk
            replace e := when_some e; obtain ⟨hs, e⟩ := e
            obtain ⟨rfl, rfl⟩ := and_eq hs
            obtain ⟨ts, ks, e, h1, h2, h3, h4, h5⟩ := fills_ok I gs xs hR2 e
            obtain ⟨hnS, A, thaw⟩ := I.blk k _ hk
            cases Rv with
            | rw _ _ b hb hv hone =>
            rw [hk] at hb; cases hb
            have hx := hv _ _ _ rfl
            refine ⟨_, _, e, fun hn => ?_, fun k' hk' => ?_, fun hall k' hk' => ?_, by simp [h4], fun hall hF W2 S2 vs hb => ?_⟩
            · rw [List.nodup_cons] at hn
              refine ⟨some (ρ k).B, _, ⟨ρ k, rfl, hx, A, thaw, hnS⟩, h1 hn.2, rfl, fun hm => ?_⟩
              obtain ⟨k', hk', he⟩ := List.mem_map.1 hm
              obtain ⟨b', hb', ho'⟩ := h2 k' hk'
              exact I.dis k' k b' _ hb' hk ho' rfl (fun x => hn.1 (x ▸ hk')) he
            · rcases List.mem_cons.1 hk' with rfl | hk'
              · exact ⟨_, hk, rfl⟩
              · exact h2 k' hk'
            · simp only [List.all_cons, Bool.and_eq_true] at hall
              cases hall.1
            · simp only [List.all_cons, Bool.and_eq_true] at hall
              cases hall.1
          · cases e
        · cases e
end
end Go.Ab
end
