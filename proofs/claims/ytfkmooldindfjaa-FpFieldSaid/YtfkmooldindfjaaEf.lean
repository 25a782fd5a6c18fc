/- The executor, part f: regions and code, as trees of ways. -/
import Derived.Test.YtfkmooldindfjaaEe
set_option linter.unusedSimpArgs false
set_option linter.unusedVariables false
namespace Go.Proofs.Ytfkmooldindfjaa
open Go.RowKit

inductive Tree (α : Type) where
  | leaf (a : α)
  | br (b : Bool) (t f : Tree α)
  | vc (p : Prop) (t : Tree α)
  | fail

def Tree.bind {α β : Type} : Tree α → (α → Tree β) → Tree β
  | .leaf a, k => k a
  | .br b t f, k => .br b (t.bind k) (f.bind k)
  | .vc p t, k => .vc p (t.bind k)
  | .fail, _ => .fail

def Tree.sat {α : Type} : Tree α → (α → Prop) → Prop
  | .leaf a, Q => Q a
  | .br b t f, Q => (b = true → t.sat Q) ∧ (b = false → f.sat Q)
  | .vc p t, Q => p ∧ (p → t.sat Q)
  | .fail, _ => False

theorem Tree.sat_bind {α β : Type} (t : Tree α) (k : α → Tree β) (Q : β → Prop) : (t.bind k).sat Q ↔ t.sat fun a => (k a).sat Q := by
  induction t with
  | leaf a => exact Iff.rfl
  | br b t f iht ihf => simp only [Tree.bind, Tree.sat, iht, ihf]
  | vc p t ih => simp only [Tree.bind, Tree.sat, ih]
  | fail => exact Iff.rfl

theorem Tree.sat_mono {α : Type} {t : Tree α} {Q R : α → Prop} (h : ∀ a, Q a → R a) (s : t.sat Q) : t.sat R := by
  induction t with
  | leaf a => exact h a s
  | br b t f iht ihf => exact ⟨fun e => iht (s.1 e), fun e => ihf (s.2 e)⟩
  | vc p t ih => exact ⟨s.1, fun e => ih (s.2 e)⟩
  | fail => exact s

def nth {α : Type} : List α → Nat → Option α
  | [], _ => none
  | x :: _, 0 => some x
  | _ :: xs, n + 1 => nth xs n

def setN {α : Type} : List α → Nat → α → List α
  | [], _, _ => []
  | _ :: xs, 0, y => y :: xs
  | x :: xs, n + 1, y => x :: setN xs n y

/-- A map of numbers. -/
inductive Tr where
  | nil
  | nd (v : Option AV) (l r : Tr)

def Tr.get : Tr → Nat → Option AV
  | .nil, _ => none
  | .nd v l r, k => match k with
    | 0 => v
    | k + 1 => match Nat.beq (k % 2) 0 with
      | true => l.get (k / 2)
      | false => r.get (k / 2)

def Tr.val : Tr → Option AV | .nil => none | .nd v _ _ => v
def Tr.lf : Tr → Tr | .nil => .nil | .nd _ l _ => l
def Tr.rt : Tr → Tr | .nil => .nil | .nd _ _ r => r

def Tr.setF : Nat → Tr → Nat → AV → Tr
  | 0, t, _, x => .nd (some x) t.lf t.rt
  | n + 1, t, k, x => match k with
    | 0 => .nd (some x) t.lf t.rt
    | k + 1 => match Nat.beq (k % 2) 0 with
      | true => .nd t.val (setF n t.lf (k / 2) x) t.rt
      | false => .nd t.val t.lf (setF n t.rt (k / 2) x)

def Tr.set (t : Tr) (k : Nat) (x : AV) : Tr := Tr.setF k t k x

/-- A frame's slots, so many; of some is known what they hold. -/
structure Tm where
  n : Nat
  tr : Tr

structure St where
  tmps : Tm
  heap : List HE

def evS (tmps : Tm) : Operand → Option AV
  | .tmp t => tmps.tr.get t
  | .const v => ofConst v
  | .global _ => none
  | .func f => some (.one (.c (.fn f)))

def hpS (heap : List HE) : Heap := fun i => match nth heap i with | some x => x | none => .un

def putT (tmps : Tm) (dst : Option Tmp) (v : AV) : Tm := match dst with
  | some d => ⟨tmps.n, match Nat.blt d tmps.n with | true => tmps.tr.set d v | false => tmps.tr⟩
  | none => tmps

def setL (heap : List HE) : List (Nat × HE) → List HE
  | [] => heap
  | (i, x) :: rest => setL (setN heap i x) rest

/-- What a guard's operation told: nothing, if it was passed over. -/
def guardC (ops : List Oper) (tmps : Tm) (j : Nat) : Option (Option Bool) :=
  match nth ops j with
  | some o => match o.dst with
    | some d => match tmps.tr.get d with
      | some (.one (.c .tt)) => some (some true)
      | some (.one (.c .ff)) => some (some false)
      | some (.tup []) => some none
      | _ => none
    | none => none
  | none => none

def wantedC (ops : List Oper) (tmps : Tm) (o : Oper) : Option Bool :=
  match o.guard with
  | none => some true
  | some (j, want) => match guardC ops tmps j with
    | some (some b) => some (match b, want with | true, true => true | false, false => true | _, _ => false)
    | some none => some false
    | none => none

def isGuard : List Oper → Nat → Bool
  | [], _ => false
  | o :: rest, j => match o.guard with
    | some (k, _) => match Nat.beq k j with
      | true => true
      | false => isGuard rest j
    | none => isGuard rest j

/-- What an operation read and wrote, of named blocks. -/
abbrev Foot := List Nat × List Nat

def bumpId (E : Env) (o : Oper) (id : Nat) : Nat := match takes E o with | true => id + 1 | false => id

/-- The name that an operation may take: its own, or (L) none that is in use. -/
def myId (E : Env) (o : Oper) (L id : Nat) : Nat := match takes E o with | true => id | false => L

def runOps (E : Env) (ops : List Oper) (L : Nat) : List Oper → Nat → Nat → St → List Foot → Tree (St × List Foot)
  | [], _, _, st, log => .leaf (st, log)
  | o :: rest, j, id, st, log =>
    match wantedC ops st.tmps o with
    | none => .fail
    | some false => runOps E ops L rest (j + 1) (bumpId E o id) ⟨putT st.tmps o.dst AV.undef, st.heap⟩ (([], []) :: log)
    | some true =>
      match act E (myId E o L id) (evS st.tmps) (hpS st.heap) o with
      | none => .fail
      | some e =>
        let next (v : AV) : Tree (St × List Foot) := runOps E ops L rest (j + 1) (bumpId E o id) ⟨putT st.tmps o.dst v, setL st.heap e.wr⟩ ((e.reads, e.wr.map (·.1)) :: log)
        let ways : Tree (St × List Foot) := match e.val with
          | .one (.c (.bool b)) => match isGuard ops j with
            | true => .br b (next (.one (.c .tt))) (next (.one (.c .ff)))
            | false => next e.val
          | _ => next e.val
        match e.pre with
        | .t => ways
        | .p x => .vc x ways

def countTakes (E : Env) : List Oper → Nat
  | [] => 0
  | o :: rest => match takes E o with | true => countTakes E rest + 1 | false => countTakes E rest

def unNamed : Nat → List HE
  | 0 => []
  | n + 1 => .un :: unNamed n

/-! independence of a region's operations -/

def meets (xs ys : List Nat) : Bool := xs.any fun x => ys.any fun y => Nat.beq x y

def footApart (a b : Foot) : Bool := !(meets a.2 b.1 || meets a.2 b.2 || meets a.1 b.2)

/-- Of each operation, as bits, those that stand ahead of it by its binding edges. -/
def predsOf (ops : List Oper) : List Nat → List Nat
  | acc => match ops with
    | [] => acc
    | o :: rest => predsOf rest (acc ++ [o.after.toList.foldl (fun m e => match Region.binds .any e with
        | true => m ||| (1 <<< e.on) ||| (match nth acc e.on with | some x => x | none => 0)
        | false => m) 0])

def pairOk (allOps : Array Oper) (x : Oper) (fx : Foot) : List Oper → List Foot → List Nat → Nat → Bool
  | [], _, _, _ => true
  | o :: os, f :: fs, m :: ms, i => (Nat.testBit m i || (x.apart allOps o && footApart fx f)) && pairOk allOps x fx os fs ms i
  | _ :: _, _, _, _ => false

/-- Do all binding edges lead back? -/
def edgesBack (o : Oper) (i : Nat) : Bool := o.after.toList.all fun e => match Region.binds .any e with | true => Nat.blt e.on i | false => true

def allPairs (allOps : Array Oper) : List Oper → List Foot → List Nat → Nat → Bool
  | [], _, _, _ => true
  | o :: os, f :: fs, _ :: ms, i => edgesBack o i && pairOk allOps o f os fs ms i && allPairs allOps os fs ms (i + 1)
  | _ :: _, _, _, _ => false

/-- May the operations of a region be done in whatever order its edges allow, with one and the same outcome? -/
def freeOrder (ops : List Oper) (log : List Foot) : Bool := allPairs ops.toArray ops log (predsOf ops []) 0

def runRegion (E : Env) (ops : List Oper) (draw : Bool) (st : St) : Tree St :=
  (runOps E ops (st.heap.length + countTakes E ops) ops 0 st.heap.length ⟨st.tmps, st.heap ++ unNamed (countTakes E ops)⟩ []).bind fun r =>
    match draw with
    | false => .leaf r.1
    | true => match freeOrder ops r.2.reverse with
      | true => .leaf r.1
      | false => .fail

inductive X where
  | normal
  | exit (id : Nat)
  | goto (l : Nat)
  | ret

def loopGo (ex : St → Tree (X × St)) : Nat → St → Tree (X × St)
  | 0, _ => .fail
  | n + 1, st => (ex st).bind fun r => match r.1 with
    | .normal => loopGo ex n r.2
    | _ => .leaf r

def scopeGo (ex : Code → St → Tree (X × St)) (a : Code) : Nat → Code → St → Tree (X × St)
  | 0, _, _ => .fail
  | n + 1, cur, st => (ex cur st).bind fun r => match r.1 with
    | .goto l => match findLabel a l with
      | some rest => scopeGo ex a n rest r.2
      | none => .leaf r
    | _ => .leaf r

def refine (tmps : Tm) (c : Operand) (v : Cell) : Tm := match c with | .tmp t => ⟨tmps.n, tmps.tr.set t (.one (.c v))⟩ | _ => tmps

def exec (E : Env) : Nat → Code → St → Tree (X × St)
  | 0, _, _ => .fail
  | n + 1, c, st => match c with
    | .skip => .leaf (.normal, st)
    | .label _ => .leaf (.normal, st)
    | .region _ ops draw => (runRegion E ops.toList draw st).bind fun s => .leaf (.normal, s)
    | .seq a b => (exec E n a st).bind fun r => match r.1 with
      | .normal => exec E n b r.2
      | _ => .leaf r
    | .cond c a b => match evS st.tmps c with
      | some (.one (.c .tt)) => exec E n a st
      | some (.one (.c .ff)) => exec E n b st
      | some (.one (.c (.bool p))) => .br p (exec E n a ⟨refine st.tmps c .tt, st.heap⟩) (exec E n b ⟨refine st.tmps c .ff, st.heap⟩)
      | _ => .fail
    | .block id a => (exec E n a st).bind fun r => match r.1 with
      | .exit id' => match Nat.beq id' id with
        | true => .leaf (.normal, r.2)
        | false => .leaf r
      | _ => .leaf r
    | .loop a => loopGo (exec E n a) n st
    | .exit id => .leaf (.exit id, st)
    | .goto l => .leaf (.goto l, st)
    | .scope a => scopeGo (exec E n) a n a st
    | .ret => .leaf (.ret, st)
    | _ => .fail

def resOne (P : Program) (st : St) : ResultVar → Option AV1
  | .tmp t => match st.tmps.tr.get t with
    | some (.one v) => some v
    | _ => none
  | .cell p t => match st.tmps.tr.get p with
    | some (.one (.c (.ptr i off))) => match actLoad P (hpS st.heap) t i off with
      | some ⟨.one v, .t, _, _⟩ => some v
      | _ => none
    | _ => none

def resAll (P : Program) (rs : List ResultVar) (st : St) : Option AV :=
  match mapO (resOne P st) rs with
  | some [v] => some (.one v)
  | some vs => some (.tup vs)
  | none => none

/-- The slots that hold a function's arguments. -/
def Tr.args : List AV → Nat → Tr → Tr
  | [], _, t => t
  | v :: vs, k, t => Tr.args vs (k + 1) (t.set k v)

/-- A function's body, run. -/
def runBody (E : Env) (fuel : Nat) (rs : List ResultVar) (c : Code) (st : St) : Tree (AV × List HE) :=
  (exec E fuel c st).bind fun r => match r.1 with
    | .normal | .ret => match resAll E.P rs r.2 with
      | some v => .leaf (v, r.2.heap)
      | none => .fail
    | _ => .fail

def Tree.map {α β : Type} (f : α → β) : Tree α → Tree β
  | .leaf a => .leaf (f a)
  | .br b t g => .br b (t.map f) (g.map f)
  | .vc p t => .vc p (t.map f)
  | .fail => .fail

def runFn (E : Env) (fuel : Nat) (fn : Func) (args : List AV) (heap : List HE) : Tree (AV × List HE) :=
  match fn.body with
  | some c => runBody E fuel fn.results.toList c ⟨⟨args.length + (fn.ntmps - args.length), Tr.args args 0 .nil⟩, heap⟩
  | none => .fail

/-- A function that only computes: what it gives. -/
def pureFn (E : Env) (fuel : Nat) (fn : Func) (args : List AV) : Tree AV := (runFn E fuel fn args []).map (·.1)

end Go.Proofs.Ytfkmooldindfjaa
