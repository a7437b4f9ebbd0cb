/- Operations on abstract values that leave memory alone: what they answer,and that the model's operations answer the same. -/
import Derived.Test.YtlonaefihjdkpaaA1
import Derived.Laws.Cells
import Derived.Laws.Entries
import Derived.ChangeKeysEq
import Derived.Laws.StructEq
import Derived.Laws.Bits
namespace Go.Abs
open AVal
inductive IOpd where
  | t (n : Nat)
  | k (v : AVal)
  deriving Inhabited
def IOpd.ev (fr : Fr) : IOpd → AVal
  | .t n => fr.get n
  | .k v => v
inductive IOp where
  | mv (x : IOpd)
  | pick (c a b : IOpd)
  | bin (op : BinOp) (x y : IOpd)
  | eqb (neg : Bool) (x y : IOpd)
  | eqv (neg : Bool) (n : Nat) (x y : IOpd)
  | eqnil (neg : Bool) (x : IOpd)
  | eqs (neg : Bool) (x y : IOpd)
  | eqp (neg : Bool) (x : IOpd)
  | un (op : UnOp) (x : IOpd)
  | conv (k : IntKind) (x : IOpd)
  | mkfn (f : Fn) (first cap : List IOpd)
  | load (ag : Bool) (k : Nat) (a : IOpd)
  | nilck (x : IOpd)
  | slS (k : Nat) (x : IOpd) (lo hi mx : Option IOpd)
  | slP (n k : Nat) (x : IOpd) (lo hi : Option IOpd)
  | slT (x : IOpd) (lo hi : Option IOpd)
  | fldA (off : Nat) (x : IOpd)
  | fld (ag : Bool) (k off : Nat) (x : IOpd)
  | ixS (k : Nat) (x i : IOpd)
  | ixP (n k : Nat) (x i : IOpd)
  | ixV (ag : Bool) (n k : Nat) (x i : IOpd)
  | ixStr (x i : IOpd)
  | ext (x : IOpd) (i : Nat)
  | len (x : IOpd)
  | lenStr (x : IOpd)
  | lenc (n : Nat)
  | mn (x y : IOpd)
  | mx (x y : IOpd)
  | build (zero : List AVal) (parts : List (Nat × Nat × IOpd))
  | alloc (zero : List AVal)
  | box (x : IOpd)
  | bslice (k len : Nat) (zero : List AVal) (parts : List (Nat × Nat × IOpd))
  | mksl (k bytes : Nat) (zero : List AVal) (l c : IOpd)
  | store (k : Nat) (a x : IOpd)
  | append (k bytes : Nat) (s x : IOpd)
  | copy (k : Nat) (d s : IOpd)
  | clr (k : Nat) (zero : List AVal) (s : IOpd)
  | mlen (x : IOpd)
  | mget (n : Nat) (zero : AVal) (m k : IOpd)
  | mval (n : Nat) (zero : AVal) (m k : IOpd)
  | mentry (it : IOpd)
  | mkmap
  | mset (n : Nat) (m k x : IOpd)
  | mrange (m : IOpd)
  | mnext (it : IOpd)
  | call (f : IOpd) (args : List IOpd)
  deriving Inhabited
def bitsI (op : BinOp) (k : IntKind) (x y : Int) : Int :=
  let a := BitVec.ofInt k.bits x
  let b := BitVec.ofInt k.bits y
  k.wrap (match op with
    | .and => (a &&& b).toNat
    | .or => (a ||| b).toNat
    | .xor => (a ^^^ b).toNat
    | _ => (a &&& ~~~b).toNat)
def binI (op : BinOp) (k : IntKind) (a b : Int) : Option (Prop × AVal) :=
  match op with
  | .add => some (True,.val (.int k (k.wrap (a + b))))
  | .sub => some (True,.val (.int k (k.wrap (a - b))))
  | .mul => some (True,.val (.int k (k.wrap (a * b))))
  | .quo => some (b ≠ 0,.val (.int k (k.wrap (a.tdiv b))))
  | .rem => some (b ≠ 0,.val (.int k (a.tmod b)))
  | .and => some (True,.val (.int k (bitsI .and k a b)))
  | .or => some (True,.val (.int k (bitsI .or k a b)))
  | .xor => some (True,.val (.int k (bitsI .xor k a b)))
  | .andNot => some (True,.val (.int k (bitsI .andNot k a b)))
  | .eql => some (True,B (a == b))
  | .neq => some (True,B (a != b))
  | .lss => some (True,B (decide (a < b)))
  | .leq => some (True,B (decide (a ≤ b)))
  | .gtr => some (True,B (decide (a > b)))
  | .geq => some (True,B (decide (a ≥ b)))
  | _ => none
def shI (op : BinOp) (k : IntKind) (a b : Int) : Option (Prop × AVal) :=
  match op with
  | .shl => some (0 ≤ b,.val (.int k (k.wrap (a * 2 ^ min b.toNat k.bits))))
  | .shr => some (0 ≤ b,.val (.int k (a.fdiv (2 ^ min b.toNat k.bits))))
  | _ => none
def isSh : BinOp → Bool
  | .shl | .shr => true
  | _ => false
def binA (op : BinOp) (x y : AVal) : Option (Prop × AVal) :=
  match x,y with
  | .val (.int k a),.val (.int k' b) => if isSh op then shI op k a b else if k = k' then binI op k a b else none
  | _,_ => none
def pickA (c a b : AVal) : Option (Prop × AVal) :=
  match c with
  | .val (.bool t) => some (True,if t then a else b)
  | _ => none
def eqbA (neg : Bool) (x y : AVal) : Option (Prop × AVal) :=
  match x,y with
  | .val (.bool a),.val (.bool b) => some (True,B (neg ^^ (a == b)))
  | _,_ => none
def eqsA (neg : Bool) (x y : AVal) : Option (Prop × AVal) :=
  match x,y with
  | .val (.string a),.val (.string b) => some (True,B (neg ^^ (a.toList == b.toList)))
  | _,_ => none
def eqpA (neg : Bool) (x : AVal) : Option (Prop × AVal) :=
  match x with
  | .val (.pointer none) => some (True,B (!neg))
  | .ptr _ _ => some (True,B neg)
  | _ => none
def ints : List AVal → Option (List Int)
  | [] => some []
  | .val (.int .i64 a) :: r => (ints r).map (a :: ·)
  | _ => none
def keyI (n : Nat) : AVal → Option (List Int)
  | .agg cs => (ints cs).bind fun l => if l.length = n then some l else none
  | _ => none
def mfind (n : Nat) (l : List Int) : List (AVal × AVal) → Nat → Option (Option (Nat × AVal))
  | [],_ => some none
  | (k,v) :: r,i => match keyI n k with
    | some m => if l == m then some (some (i,v)) else mfind n l r (i + 1)
    | none => none
def mlenA (x : AVal) (H : AHeap) : Option (Prop × AVal) :=
  match x with
  | .mp i => match H[i]? with
    | some (.map es) => some (True,I es.length)
    | _ => none
  | _ => none
def mgetA (n : Nat) (z m k : AVal) (H : AHeap) : Option (Prop × AVal) :=
  match m with
  | .mp i => match H[i]? with
    | some (.map es) => match keyI n k with
      | some l => match mfind n l es 0 with
        | some (some (_,v)) => some (True,.tup [v,B true])
        | some none => some (True,.tup [z,B false])
        | none => none
      | none => none
    | _ => none
  | _ => none
def mvalA (n : Nat) (z m k : AVal) (H : AHeap) : Option (Prop × AVal) :=
  match mgetA n z m k H with
  | some (p,.tup [x,_]) => some (p,x)
  | _ => none
def mentryA (it : AVal) (H : AHeap) : Option (Prop × AVal) :=
  match it with
  | .ptr i off => match H[i]? with
    | some (.iter m n seen) => match H[m]? with
      | some (.map es) => match seen.getLast? with
        | some s => match es[s]? with
          | some p => some (off = 0 ∧ es.length = n,.tup [p.1,p.2])
          | none => none
        | none => none
      | _ => none
    | _ => none
  | _ => none
def mnextA (it : AVal) (H : AHeap) (K : AVal → AHeap → Prop) : Prop :=
  match it with
  | .ptr i off => match H[i]? with
    | some (.iter m n seen) => match H[m]? with
      | some (.map es) => off = 0 ∧ es.length = n ∧ ((∀ k,k < n → k ∈ seen) → K (.tup [B false]) H) ∧ ∀ k p,es[k]? = some p → k ∉ seen → K (.tup [B true,p.1,p.2]) (H.set i (.iter m n (seen ++ [k])))
      | _ => False
    | _ => False
  | _ => False
def eqvA (neg : Bool) (n : Nat) (x y : AVal) : Option (Prop × AVal) :=
  match x,y with
  | .agg cs,.agg ds => match ints cs,ints ds with
    | some l,some m => some (l.length = n ∧ m.length = n,B (neg ^^ (l == m)))
    | _,_ => none
  | _,_ => none
def eqnilA (neg : Bool) (x : AVal) : Option (Prop × AVal) :=
  match x with
  | .val (.slice none 0 0) => some (True,B (!neg))
  | .sl true _ _ => some (True,B neg)
  | .sl false _ xs => some (xs ≠ [],B neg)
  | .own _ _ len _ _ => some (0 < len,B neg)
  | _ => none
def unA (op : UnOp) (x : AVal) : Option (Prop × AVal) :=
  match op,x with
  | .neg,.val (.int k n) => some (True,.val (.int k (k.wrap (0 - n))))
  | .xor,.val (.int k n) => some (True,.val (.int k (bitsI .xor k (if k.signed then -1 else k.max) n)))
  | .not,.val (.bool b) => some (True,B (!b))
  | _,_ => none
def convA (k : IntKind) (x : AVal) : Option (Prop × AVal) :=
  match x with
  | .val (.int _ n) => some (True,.val (.int k (k.wrap n)))
  | _ => none
def cut (ag : Bool) (k : Nat) (cs : List AVal) : AVal := if ag then .agg (cs.take k) else cs.headD .any
def loadA (ag : Bool) (k : Nat) (a : AVal) (H : AHeap) : Option (Prop × AVal) :=
  match a with
  | .rp cs => some (k ≤ cs.length ∧ (ag = false → k = 1),cut ag k cs)
  | .ptr i off => match H[i]? with
    | some (.cells cs) => some (off + k ≤ cs.length ∧ (ag = false → k = 1),cut ag k (cs.drop off))
    | _ => none
  | _ => none
def nilckA (x : AVal) : Option (Prop × AVal) :=
  match x with
  | .ptr i o => some (True,.ptr i o)
  | .rp cs => some (True,.rp cs)
  | .yld i => some (True,.yld i)
  | .fn (.func f) a b => some (True,.fn (.func f) a b)
  | _ => none
def intA : AVal → Option Int
  | .val (.int _ n) => some n
  | _ => none
def szOk (k : Nat) (xs : List AVal) : Prop := ∀ e ∈ xs,e.cells.length = k
def slSA (k : Nat) (x : AVal) (lo hi mx : Option AVal) : Option (Prop × AVal) :=
  let l? := match lo with | none => some 0 | some v => intA v
  match x,l?,hi.map intA,mx.map intA with
  | .sl nn t xs,some l,none,none => some (0 ≤ l ∧ l ≤ xs.length ∧ szOk k xs,.sl nn t (xs.drop l.toNat))
  | .sl nn _ xs,some l,some (some h),none => some (0 ≤ l ∧ l ≤ h ∧ h ≤ xs.length ∧ szOk k xs,.sl nn false ((xs.take h.toNat).drop l.toNat))
  | .sl nn _ xs,some l,some (some h),some (some m) => some (0 ≤ l ∧ l ≤ h ∧ h ≤ xs.length ∧ m = h ∧ 0 < h ∧ szOk k xs,.sl nn true ((xs.take h.toNat).drop l.toNat))
  | .val (.slice none 0 0),some l,none,none => some (l = 0,nilSl)
  | .val (.slice none 0 0),some l,some (some h),none => some (l = 0 ∧ h = 0,nilSl)
  | .val (.slice none 0 0),some l,some (some h),some (some m) => some (l = 0 ∧ h = 0 ∧ m = 0,nilSl)
  | .own i off len lb k',some l,none,none => if k = k' then (if l = len ∧ 0 < l then some (True,.sl false false []) else some (0 ≤ l ∧ l ≤ len ∧ (l = 0 ∨ l < lb),.own i (off + l.toNat * k) (len - l.toNat) (lb - l.toNat) k)) else none
  | .own i off _ lb k',some l,some (some h),none => if k = k' then some (0 ≤ l ∧ l ≤ h ∧ h ≤ lb ∧ (l = 0 ∨ l < lb),.own i (off + l.toNat * k) (h.toNat - l.toNat) (lb - l.toNat) k) else none
  | _,_,_,_ => none
def slTA (x : AVal) (lo hi : Option AVal) : Option (Prop × AVal) :=
  match x with
  | .val (.string s) =>
    match (match lo with | none => some 0 | some v => intA v),(match hi with | none => some (s.size : Int) | some v => intA v) with
    | some l,some h => some (0 ≤ l ∧ l ≤ h ∧ h ≤ s.size,.val (.string (s.extract l.toNat h.toNat)))
    | _,_ => none
  | _ => none
def slPA (n k : Nat) (x : AVal) (lo hi : Option AVal) (H : AHeap) : Option (Prop × AVal) :=
  let l? := match lo with | none => some 0 | some v => intA v
  let h? := match hi with | none => some (n : Int) | some v => intA v
  match x,l?,h? with
  | .ptr i off,some l,some h => match H[i]? with
    | some (.cells cs) => some (0 ≤ l ∧ l ≤ h ∧ h ≤ n ∧ (l = 0 ∨ l < n) ∧ off + n * k ≤ cs.length,.own i (off + l.toNat * k) (h.toNat - l.toNat) (n - l.toNat) k)
    | _ => none
  | _,_,_ => none
def fldAA (off : Nat) (x : AVal) : Option (Prop × AVal) :=
  match x with
  | .ptr i o => some (True,.ptr i (o + off))
  | .rp cs => some (off < cs.length,.rp (cs.drop off))
  | _ => none
def fldVA (ag : Bool) (k off : Nat) (x : AVal) : Option (Prop × AVal) :=
  match x with
  | .agg cs => some (off + k ≤ cs.length ∧ (ag = false → k = 1),cut ag k (cs.drop off))
  | _ => none
def ixSA (k : Nat) (x i : AVal) : Option (Prop × AVal) :=
  match x,intA i with
  | .sl _ _ xs,some i => some (0 ≤ i ∧ i < xs.length ∧ (xs.getD i.toNat .any).cells.length = k ∧ 0 < k,.rp (xs.getD i.toNat .any).cells)
  | .own b off len _ k',some i => if k = k' then some (0 ≤ i ∧ i < len,.ptr b (off + i.toNat * k)) else none
  | _,_ => none
def ixPA (n k : Nat) (x i : AVal) : Option (Prop × AVal) :=
  match x,intA i with
  | .ptr b off,some i => some (0 ≤ i ∧ i < n,.ptr b (off + i.toNat * k))
  | .rp cs,some i => some (0 ≤ i ∧ i < n ∧ i.toNat * k < cs.length,.rp (cs.drop (i.toNat * k)))
  | _,_ => none
def ixVA (ag : Bool) (n k : Nat) (x i : AVal) : Option (Prop × AVal) :=
  match x,intA i with
  | .agg cs,some i => some (0 ≤ i ∧ i < n ∧ i.toNat * k + k ≤ cs.length ∧ (ag = false → k = 1),cut ag k (cs.drop (i.toNat * k)))
  | _,_ => none
def ixStrA (x i : AVal) : Option (Prop × AVal) :=
  match x,intA i with
  | .val (.string s),some i => some (0 ≤ i ∧ i < s.size,.val (.int .u8 (s.get! i.toNat).toNat))
  | _,_ => none
def extA (x : AVal) (i : Nat) : Option (Prop × AVal) :=
  match x with
  | .tup vs => some (i < vs.length,vs.getD i .any)
  | _ => none
def lenA (x : AVal) : Option (Prop × AVal) :=
  match x with
  | .sl _ _ xs => some (True,I xs.length)
  | .own _ _ len _ _ => some (True,I len)
  | .val (.slice none 0 0) => some (True,I 0)
  | _ => none
def lenStrA (x : AVal) : Option (Prop × AVal) :=
  match x with
  | .val (.string s) => some (True,I s.size)
  | _ => none
def mnA (x y : AVal) : Option (Prop × AVal) :=
  match x,y with
  | .val (.int k a),.val (.int _ b) => some (True,.val (.int k (if b < a then b else a)))
  | _,_ => none
def mxA (x y : AVal) : Option (Prop × AVal) :=
  match x,y with
  | .val (.int k a),.val (.int _ b) => some (True,.val (.int k (if b > a then b else a)))
  | _,_ => none
def AVal.fits : AVal → Bool
  | .agg _ => true
  | v => v.isCell
def fillA (cs : List AVal) : List (Nat × AVal) → List AVal
  | [] => cs
  | (off,v) :: r => fillA (cs.take off ++ v.cells ++ cs.drop (off + v.cells.length)) r
def fillOk (n : Nat) : List (Nat × Nat × AVal) → Bool
  | [] => true
  | (off,size,v) :: r => v.cells.length == size && off + size ≤ n && v.fits && fillOk n r
def buildA (zero : List AVal) (parts : List (Nat × Nat × AVal)) : Option (Prop × AVal) :=
  some (fillOk zero.length parts = true,.agg (fillA zero (parts.map fun p => (p.1,p.2.2))))
def opq (op : IOp) (fr : Fr) (H : AHeap) : Option (Prop × AVal) :=
  match op with
  | .mv x => some (True,x.ev fr)
  | .pick c a b => pickA (c.ev fr) (a.ev fr) (b.ev fr)
  | .bin op x y => binA op (x.ev fr) (y.ev fr)
  | .eqb neg x y => eqbA neg (x.ev fr) (y.ev fr)
  | .eqv neg n x y => eqvA neg n (x.ev fr) (y.ev fr)
  | .eqnil neg x => eqnilA neg (x.ev fr)
  | .eqs neg x y => eqsA neg (x.ev fr) (y.ev fr)
  | .eqp neg x => eqpA neg (x.ev fr)
  | .slT x lo hi => slTA (x.ev fr) (lo.map (·.ev fr)) (hi.map (·.ev fr))
  | .un op x => unA op (x.ev fr)
  | .conv k x => convA k (x.ev fr)
  | .mkfn f a b => some (True,.fn f (a.map (·.ev fr)) (b.map (·.ev fr)))
  | .load ag k a => loadA ag k (a.ev fr) H
  | .nilck x => nilckA (x.ev fr)
  | .slS k x lo hi mx => slSA k (x.ev fr) (lo.map (·.ev fr)) (hi.map (·.ev fr)) (mx.map (·.ev fr))
  | .slP n k x lo hi => slPA n k (x.ev fr) (lo.map (·.ev fr)) (hi.map (·.ev fr)) H
  | .fldA off x => fldAA off (x.ev fr)
  | .fld ag k off x => fldVA ag k off (x.ev fr)
  | .ixS k x i => ixSA k (x.ev fr) (i.ev fr)
  | .ixP n k x i => ixPA n k (x.ev fr) (i.ev fr)
  | .ixV ag n k x i => ixVA ag n k (x.ev fr) (i.ev fr)
  | .ixStr x i => ixStrA (x.ev fr) (i.ev fr)
  | .ext x i => extA (x.ev fr) i
  | .len x => lenA (x.ev fr)
  | .lenStr x => lenStrA (x.ev fr)
  | .lenc n => some (True,I n)
  | .mn x y => mnA (x.ev fr) (y.ev fr)
  | .mx x y => mxA (x.ev fr) (y.ev fr)
  | .build zero parts => buildA zero (parts.map fun p => (p.1,p.2.1,p.2.2.ev fr))
  | .mlen x => mlenA (x.ev fr) H
  | .mget n z m k => mgetA n z (m.ev fr) (k.ev fr) H
  | .mval n z m k => mvalA n z (m.ev fr) (k.ev fr) H
  | .mentry it => mentryA (it.ev fr) H
  | _ => none
/-! ### Operations that make a block: what they answer,by the block's number,and what the block holds -/
def AVal.cellsOk : AVal → Bool
  | .agg cs => cs.all AVal.isCell
  | v => v.isCell
def zeros (zero : List AVal) (n : Nat) : List AVal :=
  match zero with
  | [z] => List.replicate n z
  | zs => (List.replicate n zs).flatten
def opa (op : IOp) (fr : Fr) : Option (Prop × (Nat → AVal) × List AVal) :=
  match op with
  | .alloc zero => some (True,fun i => .ptr i 0,zero)
  | .box x => some ((x.ev fr).cellsOk = true,fun i => .ptr i 0,(x.ev fr).cells)
  | .bslice k len zero parts =>
    let ps := parts.map fun p => (p.1,p.2.1,p.2.2.ev fr)
    some (fillOk (len * k) ps = true,fun i => .own i 0 len len k,fillA (zeros zero len) (ps.map fun p => (p.1,p.2.2)))
  | .mksl k bytes zero l c =>
    match intA (l.ev fr),intA (c.ev fr) with
    | some l,some c => some (0 ≤ l ∧ l ≤ c ∧ bytes * c ≤ 2 ^ 48 ∧ c < 2 ^ 63,fun i => .own i 0 l.toNat c.toNat k,zeros zero c.toNat)
    | _,_ => none
  | _ => none
/-! ### Operations that write -/
def srcA (k : Nat) (x : AVal) (H : AHeap) : Option (Nat × List AVal × Prop) :=
  match x with
  | .sl _ _ xs => some (xs.length,xs.flatMap AVal.cells,szOk k xs ∧ ∀ u ∈ xs.flatMap AVal.cells,u.isCell = true)
  | .own j off len _ k' => if k = k' then match H[j]? with
    | some (.cells cs) => some (len,(cs.drop off).take (len * k),off + len * k ≤ cs.length ∧ ∀ u ∈ (cs.drop off).take (len * k),u.isCell = true)
    | _ => none
    else none
  | .val (.slice none 0 0) => some (0,[],True)
  | _ => none
def appA (k bytes : Nat) (s x : AVal) (H : AHeap) (n : Nat) (pl : AHeap → Blk → AHeap) : Option (Prop × AVal × AHeap) :=
  match srcA k x H with
  | none => none
  | some (m,xc,p) =>
    match s with
    | .val (.slice none 0 0) => some (p ∧ m * bytes ≤ 2 ^ 40,.own n 0 m m k,pl H (.cells xc))
    | .sl _ true xs => some (p ∧ szOk k xs ∧ (∀ u ∈ xs.flatMap AVal.cells,u.isCell = true) ∧ (0 < m ∨ xs = []) ∧ (xs.length + m) * bytes ≤ 2 ^ 40,.own n 0 (xs.length + m) (xs.length + m) k,pl H (.cells (xs.flatMap AVal.cells ++ xc)))
    | .own i off len lb k' => if k = k' then match H[i]? with
      | some (.cells cs) =>
        if len + m ≤ lb then some (p ∧ off + len * k ≤ cs.length,.own i off (len + m) lb k,H.set i (.cells (cs.take (off + len * k) ++ xc ++ cs.drop (off + len * k + m * k))))
        else if off = 0 then some (p ∧ len * k ≤ cs.length ∧ (∀ u ∈ cs.take (len * k),u.isCell = true) ∧ (len + m) * bytes ≤ 2 ^ 40,.own n 0 (len + m) (len + m) k,pl (H.set i .dead) (.cells (cs.take (len * k) ++ xc))) else none
      | _ => none
      else none
    | _ => none
def app2A (k bytes : Nat) (s x : AVal) (H : AHeap) (K : AVal → AHeap → Prop) : Prop :=
  match srcA k x H with
  | some (m,xc,p) => match s with
    | .own i off len _ k' => match H[i]? with
      | some (.cells cs) => k = k' ∧ p ∧ 0 < m ∧ off + len * k ≤ cs.length ∧ (∀ u ∈ (cs.drop off).take (len * k),u.isCell = true) ∧ (len + m) * bytes ≤ 2 ^ 40 ∧
          K (.own i off (len + m) (len + m) k) (H.set i (.cells (cs.take (off + len * k) ++ xc ++ cs.drop (off + len * k + m * k)))) ∧
          K (.own H.length 0 (len + m) (len + m) k) (H.set i .dead ++ [.cells ((cs.drop off).take (len * k) ++ xc)])
      | _ => False
    | _ => False
  | none => False
def stoA (k : Nat) (a v : AVal) (H : AHeap) : Option (Prop × AVal × AHeap) :=
  match a with
  | .ptr i off => match H[i]? with
    | some (.cells cs) => some (v.cellsOk = true ∧ v.cells.length = k ∧ off + k ≤ cs.length,.any,H.set i (.cells (cs.take off ++ v.cells ++ cs.drop (off + k))))
    | _ => none
  | _ => none
def copA (k : Nat) (d s : AVal) (H : AHeap) : Option (Prop × AVal × AHeap) :=
  match srcA k s H,d with
  | some (m,xc,p),.own i off len _ k' => if k = k' then match H[i]? with
    | some (.cells cs) => some (p ∧ off + len * k ≤ cs.length,I (min m len : Nat),H.set i (.cells (cs.take off ++ xc.take (min m len * k) ++ cs.drop (off + min m len * k))))
    | _ => none
    else none
  | some (_,_,p),.sl _ _ [] => some (p,I 0,H)
  | _,_ => none
def clrA (k : Nat) (z : List AVal) (d : AVal) (H : AHeap) : Option (Prop × AVal × AHeap) :=
  match d with
  | .own i off len _ k' => if k = k' then match H[i]? with
    | some (.cells cs) => some (off + len * k ≤ cs.length,.any,H.set i (.cells (cs.take off ++ zeros z len ++ cs.drop (off + len * k))))
    | _ => none
    else none
  | _ => none
def msetA (n : Nat) (m k x : AVal) (H : AHeap) : Option (Prop × AVal × AHeap) :=
  match m with
  | .mp i => match H[i]? with
    | some (.map es) => match keyI n k with
      | some l => match mfind n l es 0 with
        | some none => some (True,.any,H.set i (.map (es ++ [(k,x)])))
        | _ => none
      | none => none
    | _ => none
  | _ => none
def mrangeA (m : AVal) (H : AHeap) (n : Nat) (pl : AHeap → Blk → AHeap) : Option (Prop × AVal × AHeap) :=
  match m with
  | .mp i => match H[i]? with
    | some (.map es) => some (True,.ptr n 0,pl H (.iter i es.length []))
    | _ => none
  | _ => none
def opl2 (op : IOp) (fr : Fr) (H : AHeap) (K : AVal → AHeap → Prop) : Prop :=
  match op with
  | .append k bytes s x => app2A k bytes (s.ev fr) (x.ev fr) H K
  | _ => False
def opl (op : IOp) (fr : Fr) (H : AHeap) (n : Nat) (pl : AHeap → Blk → AHeap) : Option (Prop × AVal × AHeap) :=
  match op with
  | .store k a x => stoA k (a.ev fr) (x.ev fr) H
  | .append k bytes s x => appA k bytes (s.ev fr) (x.ev fr) H n pl
  | .copy k d s => copA k (d.ev fr) (s.ev fr) H
  | .clr k z s => clrA k z (s.ev fr) H
  | .mkmap => some (True,.mp n,pl H (.map []))
  | .mset n m k x => msetA n (m.ev fr) (k.ev fr) (x.ev fr) H
  | .mrange m => mrangeA (m.ev fr) H n pl
  | _ => none
/-! ### Out of the loaded program -/
def ofValue : Value → AVal
  | .agg cs => .agg (cs.toList.map .val)
  | v => .val v
def trO : Operand → Option IOpd
  | .tmp t => some (.t t)
  | .const v => some (.k (ofValue v))
  | .global _ => none
  | .func f => some (.k (.fn (.func f) [] []))
def tSize (P : Program) (t : TypeId) : Option Nat := (P.info? t).map (·.size)
def tAgg (P : Program) (t : TypeId) : Option Bool := (P.underlying t).map fun | .struct _ | .array _ _ => true | _ => false
def tBytes (P : Program) (t : TypeId) : Option Nat := (P.info? t).map (·.bytes)
def tZero (P : Program) (t : TypeId) : Option (List AVal) := ((P.info? t).bind (·.zero)).map fun z => z.cells.toList.map .val
def trOs : List Operand → Option (List IOpd)
  | [] => some []
  | x :: r => do some ((← trO x) :: (← trOs r))
def trOpt : Option Operand → Option (Option IOpd)
  | none => some none
  | some x => (trO x).map some
def trParts (place : Nat → Option (Nat × Nat)) : List (Nat × Operand) → Option (List (Nat × Nat × IOpd))
  | [] => some []
  | (i,x) :: r => do
    let (off,size) ← place i
    some ((off,size,← trO x) :: (← trParts place r))
def isNilC : Operand → Bool
  | .const (.slice none 0 0) => true
  | _ => false
def isNilP : Operand → Bool
  | .const (.pointer none) => true
  | _ => false
def fieldPlaces (P : Program) : List Field → Option (List (Nat × Nat))
  | [] => some []
  | f :: r => do some ((f.offset,← tSize P f.type) :: (← fieldPlaces P r))
def intArr (P : Program) (t e : TypeId) : Bool := (match P.underlying e with | some (.int _) => true | _ => false) && tSize P e == some 1 && !P.eqGuardType P.depth t
def strOk (P : Program) : Nat → List Field → Bool
  | _, [] => true
  | i, f :: r => f.name != "_" && (f.offset == i && ((match P.underlying f.type with | some (.int _) => true | _ => false) && strOk P (i + 1) r))
def intStr (P : Program) (t : TypeId) (fs : Array Field) : Bool := strOk P 0 fs.toList && (!P.stoodInHeld t && !P.eqGuardType P.depth t)
def mapArr (P : Program) (t : TypeId) : Bool :=
  match P.underlying t with
  | some (.map kt _) => (match P.underlying kt with
    | some (.array n e) => n == 4 && intArr P kt e
    | _ => false)
  | _ => false
def mapZero (P : Program) (t : TypeId) : Option AVal :=
  match P.underlying t with
  | some (.map _ e) => ((P.info? e).bind (·.zero)).map ofValue
  | _ => none
def trOp (P : Program) : Op → Option IOp
  | .move x | .assign x => do some (.mv (← trO x))
  | .pick c a b => do some (.pick (← trO c) (← trO a) (← trO b))
  | .binOp op t x y _ => do
    match op,(← P.underlying t) with
    | .eql,.bool => some (.eqb false (← trO x) (← trO y))
    | .neq,.bool => some (.eqb true (← trO x) (← trO y))
    | .eql,.slice _ => if isNilC y then some (.eqnil false (← trO x)) else none
    | .neq,.slice _ => if isNilC y then some (.eqnil true (← trO x)) else none
    | .eql,.array n e => if intArr P t e then some (.eqv false n (← trO x) (← trO y)) else none
    | .neq,.array n e => if intArr P t e then some (.eqv true n (← trO x) (← trO y)) else none
    | .eql,.struct fs => if intStr P t fs then some (.eqv false fs.size (← trO x) (← trO y)) else none
    | .neq,.struct fs => if intStr P t fs then some (.eqv true fs.size (← trO x) (← trO y)) else none
    | .eql,.string => some (.eqs false (← trO x) (← trO y))
    | .neq,.string => some (.eqs true (← trO x) (← trO y))
    | .eql,.pointer _ => if isNilP y then some (.eqp false (← trO x)) else none
    | .neq,.pointer _ => if isNilP y then some (.eqp true (← trO x)) else none
    | _,.int _ => some (.bin op (← trO x) (← trO y))
    | _,_ => none
  | .unOp op _ x => do some (.un op (← trO x))
  | .convert s d x => do
    match (← P.underlying s),(← P.underlying d) with
    | .int _,.int k => some (.conv k (← trO x))
    | _,_ => none
  | .makeFunc f a b => do some (.mkfn f (← trOs a.toList) (← trOs b.toList))
  | .load t a => do some (.load (← tAgg P t) (← tSize P t) (← trO a))
  | .nilCheck x => do some (.nilck (← trO x))
  | .slice t x lo hi mx => do
    match (← P.underlying t) with
    | .slice e => some (.slS (← tSize P e) (← trO x) (← trOpt lo) (← trOpt hi) (← trOpt mx))
    | .array n e => if mx.isSome then none else some (.slP n (← tSize P e) (← trO x) (← trOpt lo) (← trOpt hi))
    | .string => if mx.isSome then none else some (.slT (← trO x) (← trOpt lo) (← trOpt hi))
    | _ => none
  | .fieldAddr s x f => do
    match (← P.underlying s) with
    | .struct fs =>
      let fd ← fs[f]?
      let z ← tSize P fd.type
      if z = 0 then none else some (.fldA fd.offset (← trO x))
    | _ => none
  | .field s x f => do
    match (← P.underlying s) with
    | .struct fs =>
      let fd ← fs[f]?
      some (.fld (← tAgg P fd.type) (← tSize P fd.type) fd.offset (← trO x))
    | _ => none
  | .indexAddr t x i => do
    match (← P.underlying t) with
    | .slice e => some (.ixS (← tSize P e) (← trO x) (← trO i))
    | .array n e => if n ≤ 1 then none else some (.ixP n (← tSize P e) (← trO x) (← trO i))
    | _ => none
  | .index t x i => do
    match (← P.underlying t) with
    | .array n e => some (.ixV (← tAgg P e) n (← tSize P e) (← trO x) (← trO i))
    | .string => some (.ixStr (← trO x) (← trO i))
    | _ => none
  | .extract x i => do some (.ext (← trO x) i)
  | .alloc t => do
    let z ← tZero P t
    if z.all AVal.isCell then some (.alloc z) else none
  | .box _ x => do some (.box (← trO x))
  | .build t parts => do
    match (← P.underlying t) with
    | .struct fs =>
      let pl ← fieldPlaces P fs.toList
      some (.build (← tZero P t) (← trParts (pl[·]?) parts.toList))
    | .array _ e =>
      let k ← tSize P e
      some (.build (← tZero P t) (← trParts (fun i => some (i * k,k)) parts.toList))
    | _ => none
  | .buildSlice t len parts => do
    match (← P.underlying t) with
    | .slice e =>
      let k ← tSize P e
      let z ← tZero P e
      if k = 0 || len * k > 2 ^ 24 || z.length != k || !(z.all AVal.isCell) then none else
      some (.bslice k len z (← trParts (fun i => some (i * k,k)) parts.toList))
    | _ => none
  | .makeSlice t l c => do
    match (← P.underlying t) with
    | .slice e =>
      let k ← tSize P e
      let z ← tZero P e
      if k = 0 || z.length != k || !(z.all AVal.isCell) then none else
      some (.mksl k (← tBytes P e) z (← trO l) (← trO c))
    | _ => none
  | .store t a x => do some (.store (← tSize P t) (← trO a) (← trO x))
  | .call { callee := .value f,args,.. } => do some (.call (← trO f) (← trOs args.toList))
  | .call { callee := .builtin .len,args,argTypes } => do
    match args.toList,(← P.underlying (← argTypes[0]?)) with
    | [x],.slice _ => some (.len (← trO x))
    | [x],.string => some (.lenStr (← trO x))
    | [x],.map _ _ => some (.mlen (← trO x))
    | [_],.array n _ => some (.lenc n)
    | _,_ => none
  | .call { callee := .builtin .min,args,.. } =>
    match args.toList with
    | [x,y] => do some (.mn (← trO x) (← trO y))
    | _ => none
  | .call { callee := .builtin .max,args,.. } =>
    match args.toList with
    | [x,y] => do some (.mx (← trO x) (← trO y))
    | _ => none
  | .call { callee := .builtin .append,args,argTypes } => do
    match args.toList,argTypes.toList with
    | [s,x],[t,u] =>
      match (← P.underlying t),(← P.underlying u) with
      | .slice e,.slice _ =>
        let k ← tSize P e
        let b ← tBytes P e
        let z ← tZero P e
        if k = 0 || b = 0 || z.length != k then none else some (.append k b (← trO s) (← trO x))
      | _,_ => none
    | _,_ => none
  | .call { callee := .builtin .copy,args,argTypes } => do
    match args.toList,argTypes.toList with
    | [s,x],[t,u] =>
      match (← P.underlying t),(← P.underlying u) with
      | .slice e,.slice _ => some (.copy (← tSize P e) (← trO s) (← trO x))
      | _,_ => none
    | _,_ => none
  | .call { callee := .builtin .clear,args,argTypes } => do
    match args.toList,argTypes.toList with
    | [s],[t] =>
      match (← P.underlying t) with
      | .slice e =>
        let k ← tSize P e
        let z ← tZero P e
        if z.length != k || !z.all AVal.isCell then none else some (.clr k z (← trO s))
      | _ => none
    | _,_ => none
  | .makeMap t none => do
    match (← P.underlying t) with
    | .map _ _ => some .mkmap
    | _ => none
  | .insert t m k x => do
    if mapArr P t then some (.mset 4 (← trO m) (← trO k) (← trO x)) else none
  | .mapUpdate t m k x => do
    if mapArr P t then some (.mset 4 (← trO m) (← trO k) (← trO x)) else none
  | .lookup t m k true => do
    if mapArr P t then some (.mget 4 (← mapZero P t) (← trO m) (← trO k)) else none
  | .lookup t m k false => do
    if mapArr P t then some (.mval 4 (← mapZero P t) (← trO m) (← trO k)) else none
  | .range t m => do
    match (← P.underlying t) with
    | .map _ _ => some (.mrange (← trO m))
    | _ => none
  | .entry it => do some (.mentry (← trO it))
  | .next it false => do some (.mnext (← trO it))
  | _ => none
end Go.Abs
