/- The executor, part e: what one operation does, over abstract values and named blocks. -/
import Derived.Test.YtfkmooldindfjaaEd
set_option linter.unusedSimpArgs false
set_option linter.unusedVariables false
namespace Go.Proofs.Ytfkmooldindfjaa
open Go.RowKit

def ofVal : Value → Option Cell
  | .int k n => some (.lit k n)
  | .bool b => some (ofBool b)
  | .pointer none => some .nilp
  | .slice none 0 0 => some .nils
  | .string s => some (.str s.data.toList)
  | _ => none

def mapO {α β : Type} (f : α → Option β) : List α → Option (List β)
  | [] => some []
  | x :: xs => match f x, mapO f xs with
    | some y, some ys => some (y :: ys)
    | _, _ => none

def ofConst : Value → Option AV
  | .agg cs => match mapO ofVal cs.toList with
    | some xs => some (.one (.agg xs))
    | none => none
  | v => match ofVal v with
    | some c => some (.one (.c c))
    | none => none

/-- The cells of a type's zero value. -/
def zeroC (P : Program) (t : TypeId) : Option (List Cell) :=
  match P.info? t with
  | none => none
  | some i => match i.zero with
    | none => none
    | some v => mapO ofVal v.cells.toList

def cellsOfV : AV → Option (List Cell)
  | .one (.c x) => some [x]
  | .one (.agg xs) => some xs
  | .tup _ => none

structure CRes where
  val : AV
  pre : Pr
  reads : List Nat
  new : Option Blk

structure Env where
  P : Program
  C : Nat → Nat → Heap → List AV → Option CRes
  news : Nat → Bool

structure Eff where
  val : AV
  pre : Pr
  reads : List Nat
  wr : List (Nat × HE)

def pureE (v : AV) : Eff := ⟨v, .t, [], []⟩
def cellE (c : Cell) : Eff := ⟨.one (.c c), .t, [], []⟩

def liveOf (h : Heap) (i : Nat) : Option Blk := match h i with | .live b => some b | _ => none

/-- Is a comparison of known numbers true? -/
def leB (a b : Nat) : Bool := Nat.ble a b

def actPick (c : Cell) (a b : Option AV) : Option Eff :=
  match c with
  | .tt => match a with | some v => some (pureE v) | none => none
  | .ff => match b with | some v => some (pureE v) | none => none
  | .bool p => match a, b with
    | some (.one (.c x)), some (.one (.c y)) => match toBool x, toBool y with
      | some x, some y => some (cellE (.bool (match p with | true => x | false => y)))
      | _, _ => none
    | _, _ => none
  | _ => none

/-- A piece of a body. -/
def Body.get (b : Body) (off n : Nat) : Option (Cond (List Cell)) :=
  match b with
  | .row cs => match ((cs.drop off).take n) with
    | xs => match xs.length == n with
      | true => some ⟨.t, xs⟩
      | false => none
  | .u64s xs => match n with
    | 1 => some ⟨.p (off < xs.length), [.u64 (xs.getD off 0)]⟩
    | _ => none
  | .u8s xs => match n with
    | 1 => some ⟨.p (off < xs.length), [.u8 (xs.getD off 0)]⟩
    | _ => none

def Body.put (b : Body) (off : Nat) (vs : List Cell) : Option (Cond Body) :=
  match b with
  | .row cs => match leB (off + vs.length) cs.length with
    | true => some ⟨.t, .row (cs.take off ++ vs ++ cs.drop (off + vs.length))⟩
    | false => none
  | .u64s xs => match vs with
    | [c] => match toU c with
      | some v => some ⟨.p (off < xs.length), .u64s (xs.set off v)⟩
      | none => none
    | _ => none
  | .u8s xs => match vs with
    | [c] => match toB c with
      | some v => some ⟨.p (off < xs.length), .u8s (xs.set off v)⟩
      | none => none
    | _ => none

def actLoad (P : Program) (h : Heap) (t : TypeId) (i off : Nat) : Option Eff :=
  match liveOf h i, P.info? t, aggT P t with
  | some b, some ti, some g => match ti.size with
    | 0 => none
    | n + 1 => match b.body.get off (n + 1) with
      | some ⟨pre, xs⟩ => match pack g xs with
        | some v => some ⟨.one v, pre, [i], []⟩
        | none => none
      | none => none
  | _, _, _ => none

def actStore (P : Program) (h : Heap) (t : TypeId) (i off : Nat) (v : AV) : Option Eff :=
  match liveOf h i, P.info? t, cellsOfV v with
  | some b, some ti, some vs => match b.own, vs.length == ti.size, vs with
    | true, true, _ :: _ => match b.body.put off vs with
      | some ⟨pre, body⟩ => some ⟨AV.undef, pre, [i], [(i, .live { b with body := body })]⟩
      | none => none
    | _, _, _ => none
  | _, _, _ => none

/-- An index: its number, and what must hold of it. -/
def idx (ix : AV) (len : Nat) (lenKnown : Bool) : Option (Cond Nat) :=
  match ix with
  | .one (.c (.lit _ n)) => match lenKnown with
    | true => match decide (0 ≤ n), leB (n.toNat + 1) len with
      | true, true => some ⟨.t, n.toNat⟩
      | _, _ => none
    | false => match decide (0 ≤ n) with
      | true => some ⟨.p (n.toNat < len), n.toNat⟩
      | false => none
  | .one (.c c) => match toI c with
    | some (_, n) => some ⟨.p (0 ≤ n ∧ n < (len : Int)), n.toNat⟩
    | none => none
  | _ => none

def actIndexAddr (P : Program) (h : Heap) (t : TypeId) (x ix : AV) : Option Eff :=
  match x, P.underlying t with
  | .one (.c (.ptr i off)), some (.array n e) => match (P.info? e), liveOf h i, idx ix n true with
    | some ei, some b, some ⟨pre, k⟩ => match b.esz with
      | 0 => some ⟨.one (.c (.ptr i (off + k * ei.size))), pre, [i], []⟩
      | _ => none
    | _, _, _ => none
  | .one (.c (.slc i off len sz _ kn)), some (.slice e) => match (P.info? e), liveOf h i, idx ix len kn with
    | some ei, some b, some ⟨pre, k⟩ => match ei.size == sz, kn, b.body with
      | true, true, .row cs => match leB (off + len * sz) cs.length, sz with
        | true, _ + 1 => some ⟨.one (.c (.ptr i (off + k * sz))), pre, [i], []⟩
        | _, _ => none
      | true, _, _ => some ⟨.one (.c (.ptr i (off + k * sz))), pre.and (.p (off + len * sz ≤ b.body.cells.length ∧ 0 < sz)), [i], []⟩
      | _, _, _ => none
    | _, _, _ => none
  | _, _ => none

def actFieldAddr (P : Program) (h : Heap) (s : TypeId) (x : AV) (f : Nat) : Option Eff :=
  match x, P.underlying s with
  | .one (.c (.ptr i off)), some (.struct fs) => match fs[f]?, liveOf h i with
    | some fl, some b => match P.info? fl.type, b.esz with
      | some fi, 0 => match fi.size with
        | 0 => none
        | _ + 1 => some ⟨.one (.c (.ptr i (off + fl.offset))), .t, [i], []⟩
      | _, _ => none
    | _, _ => none
  | _, _ => none

/-- A part of a value. -/
def actPart (P : Program) (t : TypeId) (xs : List Cell) (off : Nat) : Option AV :=
  match P.info? t, aggT P t with
  | some ti, some g => match ((xs.drop off).take ti.size) with
    | ys => match ys.length == ti.size with
      | true => match pack g ys with
        | some v => some (.one v)
        | none => none
      | false => none
  | _, _ => none

def actField (P : Program) (t : TypeId) (x : AV) (f : Nat) : Option Eff :=
  match x, P.underlying t with
  | .one (.agg xs), some (.struct fs) => match fs[f]? with
    | some fl => match actPart P fl.type xs fl.offset with
      | some v => some (pureE v)
      | none => none
    | none => none
  | _, _ => none

def actIndex (P : Program) (t : TypeId) (x ix : AV) : Option Eff :=
  match x, P.underlying t with
  | .one (.agg xs), some (.array n e) => match idx ix n true with
    | some ⟨pre, k⟩ => match actPart P e xs (k * P.cellsOf e) with
      | some v => some ⟨v, pre, [], []⟩
      | none => none
    | none => none
  | _, _ => none

def actExtract (x : AV) (k : Nat) : Option Eff :=
  match x with
  | .tup vs => match vs[k]? with
    | some v => some (pureE (.one v))
    | none => none
  | _ => none

/-- A bound of a slice expression. -/
def bnd (o : Option (Option AV)) (dflt : Nat) (dk : Bool) : Option (Cond Nat × Bool) :=
  match o with
  | none => some (⟨.t, dflt⟩, dk)
  | some (some (.one (.c (.lit _ n)))) => match decide (0 ≤ n) with
    | true => some (⟨.t, n.toNat⟩, true)
    | false => none
  | some (some (.one (.c c))) => match toI c with
    | some (_, n) => some (⟨.p (0 ≤ n), n.toNat⟩, false)
    | none => none
  | _ => none

def RC.by (rc : RC) (l : Nat) : RC := match rc with | .kn n => .kn (n - l) | .of k => .of (k + l)
def RC.fits (rc : RC) (off len sz esz : Nat) : Prop := match rc with | .kn n => len ≤ n | .of k => k * sz = off ∧ esz = sz
def RC.fitsB (rc : RC) (off len sz esz : Nat) : Bool := match rc with | .kn n => leB len n | .of k => Nat.beq (k * sz) off && Nat.beq esz sz

def hiOk (hi mx : Option (Option AV)) : Bool := match mx, hi with | some _, none => false | _, _ => true

def actSlice (P : Program) (h : Heap) (id : Nat) (t : TypeId) (x : AV) (lo hi mx : Option (Option AV)) : Option Eff :=
  match x, P.underlying t with
  | .one (.c (.ptr i off)), some (.array n e) => match P.info? e, liveOf h i, bnd mx n true with
    | some ei, some b, some (⟨pm, m⟩, true) => match bnd hi n true, bnd lo 0 true with
      | some (⟨ph, hv⟩, kh), some (⟨_, l⟩, true) => match b.esz, kh with
        | 0, true => match leB l hv && leB hv m && leB m n && hiOk hi mx with
          | true => match Nat.beq m l with
            | true => some ⟨.one (.c (.slc i off (hv - l) ei.size (.kn (m - l)) true)), .t, [i], []⟩
            | false => some ⟨.one (.c (.slc i (off + l * ei.size) (hv - l) ei.size (.kn (m - l)) true)), .t, [i], []⟩
          | false => none
        | 0, false => match Nat.beq m l, leB m n && hiOk hi mx with
          | false, true => some ⟨.one (.c (.slc i (off + l * ei.size) (hv - l) ei.size (.kn (m - l)) false)), ph.and (.p (l ≤ hv ∧ hv ≤ m)), [i], []⟩
          | _, _ => none
        | _, _ => none
      | _, _ => none
    | _, _, _ => none
  | .one (.c (.slc i off len sz rc kn)), some (.slice e) => match P.info? e, liveOf h i, mx with
    | some ei, some b, none => match bnd hi len kn, bnd lo 0 true with
      | some (⟨ph, hv⟩, kh), some (⟨pl, l⟩, kl) => match Nat.beq ei.size sz with
        | true =>
          match kn, kh, kl, b.body with
          | true, true, true, .row cs =>
            match leB l hv && leB hv len && leB (off + len * sz) cs.length && Nat.blt 0 sz with
            | true =>
              match rc.fitsB off len sz b.esz with
              | true => match Nat.beq l 0 || Nat.blt l hv with
                | true => some ⟨.one (.c (.slc i (off + l * sz) (hv - l) sz (rc.by l) true)), .t, [i], []⟩
                | false => some ⟨.one (.c (.slc id 0 0 sz (.of 0) true)), .t, [i], [(id, .live ⟨false, e, sz, .row []⟩)]⟩
              | false => none
            | false => none
          | _, _, _, _ =>
            some ⟨.one (.c (.slc i (off + l * sz) (hv - l) sz (rc.by l) false)),
              (ph.and pl).and (.p (l ≤ hv ∧ hv ≤ len ∧ off + len * sz ≤ b.body.cells.length ∧ 0 < sz ∧ (l = 0 ∨ l < hv) ∧ rc.fits off len sz b.esz)), [i], []⟩
        | false => none
      | _, _ => none
    | _, _, _ => none
  | _, _ => none

def actArrayAt (P : Program) (h : Heap) (t : TypeId) (x : AV) : Option Eff :=
  match x, P.underlying t with
  | .one (.c (.slc i off len sz _ true)), some (.array n _) => match liveOf h i with
    | some b => match b.body with
      | .row cs => match leB n len && leB (off + len * sz) cs.length && Nat.blt 0 (len * sz) && Nat.beq b.esz 0 with
        | true => some ⟨.one (.c (.ptr i off)), .t, [i], []⟩
        | false => none
      | _ => none
    | none => none
  | _, _ => none

def actNilCheck (h : Heap) (x : AV) : Option Eff :=
  match x with
  | .one (.c (.ptr i off)) => match liveOf h i with
    | some b => match b.esz with
      | 0 => some ⟨x, .t, [i], []⟩
      | _ => none
    | none => none
  | _ => none

/-- Parts laid into a row of cells. -/
def fillC (place : Nat → Option (Nat × Nat)) (cells : List Cell) : List (Nat × List Cell) → Option (List Cell)
  | [] => some cells
  | (i, vs) :: rest => match place i with
    | none => none
    | some (off, size) => match Nat.beq vs.length size && leB (off + size) cells.length with
      | true => fillC place (cells.take off ++ vs ++ cells.drop (off + vs.length)) rest
      | false => none

def partsC (ev : Operand → Option AV) (ps : List (Nat × Operand)) : Option (List (Nat × List Cell)) :=
  mapO (fun p => match ev p.2 with
    | some v => match cellsOfV v with
      | some vs => some (p.1, vs)
      | none => none
    | none => none) ps

def placesC (P : Program) (t : TypeId) : Option (Nat → Option (Nat × Nat)) :=
  match P.underlying t with
  | some (.array _ e) => match P.info? e with
    | some ei => some fun i => some (i * ei.size, ei.size)
    | none => none
  | some (.struct fs) => match mapO (fun (f : Field) => match P.info? f.type with | some fi => some (f.offset, fi.size) | none => none) fs.toList with
    | some pl => some fun i => pl[i]?
    | none => none
  | _ => none

def actBuild (P : Program) (t : TypeId) (parts : Option (List (Nat × List Cell))) : Option Eff :=
  match zeroC P t, placesC P t, parts with
  | some z, some pl, some ps => match fillC pl z ps with
    | some cs => some (pureE (.one (.agg cs)))
    | none => none
  | _, _, _ => none

def lenC (kn : Bool) (len : Nat) : Cell := match kn with | true => .lit .i64 len | false => .int .i64 len

def actLen (P : Program) (h : Heap) (t : TypeId) (x : AV) : Option Eff :=
  match x, P.underlying t with
  | .one (.c (.slc i off len sz _ kn)), some (.slice _) => match liveOf h i with
    | some b => match b.body with
      | .row cs => match leB (off + len * sz) cs.length && Nat.blt 0 sz with
        | true => some ⟨.one (.c (lenC kn len)), .t, [i], []⟩
        | false => none
      | _ => some ⟨.one (.c (lenC kn len)), .p (off + len * sz ≤ b.body.cells.length ∧ 0 < sz), [i], []⟩
    | none => none
  | .one (.c .nils), some (.slice _) => some (cellE (.lit .i64 0))
  | .one (.c (.str s)), some .string => some (cellE (.int .i64 s.length))
  | .one (.c (.ptr _ _)), some (.array n _) => some (cellE (.lit .i64 n))
  | .one (.agg _), some (.array n _) => some (cellE (.lit .i64 n))
  | _, _ => none

def minmax (isMax : Bool) (a b : Cell) : Option Cell :=
  match a, b with
  | .lit k x, .lit k' y => match kNum k == kNum k' with
    | true => some (.lit k (match isMax with | true => if y > x then y else x | false => if y < x then y else x))
    | false => none
  | _, _ => match toI a, toI b with
    | some (k, x), some (k', y) => match kNum k == kNum k' with
      | true => some (.int k (match isMax with | true => if y > x then y else x | false => if y < x then y else x))
      | false => none
    | _, _ => none

def minmaxL (isMax : Bool) : Cell → List AV → Option Cell
  | c, [] => some c
  | c, .one (.c d) :: rest => match minmax isMax c d with
    | some e => minmaxL isMax e rest
    | none => none
  | _, _ => none

def actMM (isMax : Bool) (args : List AV) : Option Eff :=
  match args with
  | .one (.c c) :: rest => match minmaxL isMax c rest with
    | some e => some (cellE e)
    | none => none
  | _ => none

/-- A row's first value, again and again. -/
def cyc (z : List Cell) (n : Nat) : List Cell := (List.range n).map fun i => z.getD (i % z.length) .nilp

def actBuildSlice (P : Program) (id : Nat) (t : TypeId) (len : Nat) (parts : Option (List (Nat × List Cell))) : Option Eff :=
  match P.underlying t, parts with
  | some (.slice e), some ps => match P.info? e, zeroC P e with
    | some ei, some z => match leB (len * ei.size) 16777216 && Nat.beq z.length ei.size && Nat.blt 0 ei.size, fillC (fun i => some (i * ei.size, ei.size)) (cyc z (len * ei.size)) ps with
      | true, some cs => some ⟨.one (.c (.slc id 0 len ei.size (.of 0) true)), .t, [], [(id, .live ⟨true, e, ei.size, .row cs⟩)]⟩
      | _, _ => none
    | _, _ => none
  | _, _ => none

/-- So many noughts. -/
def symBody (z : List Cell) (n : Nat) : Option Body :=
  match z with
  | [.lit .u64 (.ofNat 0)] => some (.u64s (List.replicate n 0))
  | [.lit .u8 (.ofNat 0)] => some (.u8s (List.replicate n 0))
  | _ => none

def actMakeSlice (P : Program) (id : Nat) (t : TypeId) (l c : AV) : Option Eff :=
  match P.underlying t with
  | some (.slice e) => match P.info? e, zeroC P e with
    | some ei, some z => match l, c with
      | .one (.c (.lit _ n)), .one (.c (.lit _ m)) =>
        match decide (0 ≤ n) && decide (n ≤ m) && leB (m.toNat * ei.size) 16777216 && leB (ei.bytes * m.toNat) 281474976710656 && Nat.beq z.length ei.size && Nat.blt 0 ei.size with
        | true => some ⟨.one (.c (.slc id 0 n.toNat ei.size (.of 0) true)), .t, [], [(id, .live ⟨true, e, ei.size, .row (cyc z (m.toNat * ei.size))⟩)]⟩
        | false => none
      | .one (.c a), .one (.c b) => match toI a, toI b, Nat.beq ei.size 1 with
        | some (_, n), some (_, m), true => match symBody z m.toNat with
          | some body => some ⟨.one (.c (.slc id 0 n.toNat 1 (.of 0) false)), .p (0 ≤ n ∧ n ≤ m ∧ ei.bytes * m ≤ 281474976710656 ∧ m < 1125899906842624), [], [(id, .live ⟨true, e, 1, body⟩)]⟩
          | none => none
        | _, _, _ => none
      | _, _ => none
    | _, _ => none
  | _ => none

/-- Does an operation take a name for a block? -/
def takes (E : Env) (o : Oper) : Bool :=
  match o.op with
  | .alloc _ | .box _ _ | .slice .. | .makeSlice .. | .buildSlice .. => true
  | .call c => match c.callee with
    | .value (.func f) => E.news f
    | .value _ => false
    | .builtin .append => true
    | _ => false
  | _ => false

def act (E : Env) (id : Nat) (ev : Operand → Option AV) (h : Heap) (o : Oper) : Option Eff :=
  match o.op with
  | .move x | .assign x => match ev x with | some v => some (pureE v) | none => none
  | .pick c a b => match ev c with
    | some (.one (.c c)) => actPick c (ev a) (ev b)
    | _ => none
  | .alloc t => match zeroC E.P t with
    | some cs => some ⟨.one (.c (.ptr id 0)), .t, [], [(id, .live ⟨true, t, 0, .row cs⟩)]⟩
    | none => none
  | .box t x => match ev x with
    | some v => match cellsOfV v with
      | some cs => some ⟨.one (.c (.ptr id 0)), .t, [], [(id, .live ⟨true, t, 0, .row cs⟩)]⟩
      | none => none
    | none => none
  | .build t parts => actBuild E.P t (partsC ev parts.toList)
  | .load t a => match ev a with
    | some (.one (.c (.ptr i off))) => actLoad E.P h t i off
    | _ => none
  | .store t a x => match ev a, ev x with
    | some (.one (.c (.ptr i off))), some v => actStore E.P h t i off v
    | _, _ => none
  | .nilCheck x => match ev x with
    | some v => actNilCheck h v
    | none => none
  | .binOp op t x y _ => match ev x, ev y with
    | some a, some b => match binC E.P op t a b with
      | some r => some ⟨.one (.c r.val), r.pre, [], []⟩
      | none => none
    | _, _ => none
  | .unOp op _ x => match ev x with
    | some a => match unC op a with
      | some c => some (cellE c)
      | none => none
    | none => none
  | .convert src dst x => match ev x with
    | some a => match convC E.P src dst a with
      | some c => some (cellE c)
      | none => none
    | none => none
  | .sliceToArrayPointer t x => match ev x with
    | some v => actArrayAt E.P h t v
    | none => none
  | .slice t x lo hi mx => match ev x with
    | some v => actSlice E.P h id t v (lo.map ev) (hi.map ev) (mx.map ev)
    | none => none
  | .fieldAddr s x f => match ev x with
    | some v => actFieldAddr E.P h s v f
    | none => none
  | .field t x f => match ev x with
    | some v => actField E.P t v f
    | none => none
  | .indexAddr t x ix => match ev x, ev ix with
    | some v, some k => actIndexAddr E.P h t v k
    | _, _ => none
  | .index t x ix => match ev x, ev ix with
    | some v, some k => actIndex E.P t v k
    | _, _ => none
  | .extract x k => match ev x with
    | some v => actExtract v k
    | none => none
  | .call c => match c.callee with
    | .value f => match ev f, mapO ev c.args.toList with
      | some (.one (.c (.fn f))), some args => match E.C f id h args with
        | some r => match r.new with
          | none => some ⟨r.val, r.pre, r.reads, []⟩
          | some b => match takes E o with
            | true => some ⟨r.val, r.pre, r.reads, [(id, .live b)]⟩
            | false => none
        | none => none
      | _, _ => none
    | .builtin b => match mapO ev c.args.toList with
      | some args => match b, args, c.argTypes.toList with
        | .len, [x], [t] => actLen E.P h t x
        | .max, _, _ => actMM true args
        | .min, _, _ => actMM false args
        | _, _, _ => none
      | none => none
    | _ => none
  | .buildSlice t len parts => actBuildSlice E.P id t len (partsC ev parts.toList)
  | .makeSlice t l c => match ev l, ev c with
    | some a, some b => actMakeSlice E.P id t a b
    | _, _ => none
  | _ => none

end Go.Proofs.Ytfkmooldindfjaa
