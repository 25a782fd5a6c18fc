/- The executor, part q: contracts of called functions, by readings of arguments and results; a table of them. -/
import Derived.Test.YtfkmooldindfjaaEp
set_option linter.unusedSimpArgs false
set_option linter.unusedVariables false
namespace Go.Proofs.Ytfkmooldindfjaa
open Go.RowKit

abbrev Contract := Nat → Heap → List AV → Option CRes

structure CallOk (P : Program) (f : Nat) (K : Contract) : Prop where
  call : ∀ id h args r, K id h args = some r → r.pre.holds → ∀ w0 β w, HRel w0 β h w → h id = .un → (∀ v ∈ args, okv h v) →
    FnRuns P f (args.map (gv β)).toArray w (EffOk w0 β h id r.val (newL id r.new))
  near : ∀ id h h' args r, K id h args = some r → (∀ i ∈ r.reads, h i = h' i) → K id h' args = some r

abbrev Table := List (Nat × Contract)

def findK : Table → Nat → Contract
  | [], _ => fun _ _ _ => none
  | (g, k) :: rest, f => match Nat.beq g f with
    | true => k
    | false => findK rest f

def TableOk (P : Program) (T : Table) : Prop := ∀ p ∈ T, CallOk P p.1 p.2

theorem TableOk.nil {P : Program} : TableOk P [] := fun _ h => by cases h
theorem TableOk.cons {P : Program} {f : Nat} {K : Contract} {T : Table} (h : CallOk P f K) (hT : TableOk P T) : TableOk P ((f, K) :: T) := fun p hp => by
  rcases List.mem_cons.1 hp with rfl | hp
  · exact h
  · exact hT p hp
theorem TableOk.append {P : Program} {S T : Table} (h : TableOk P S) (hT : TableOk P T) : TableOk P (S ++ T) := fun p hp => by
  rcases List.mem_append.1 hp with hp | hp
  · exact h p hp
  · exact hT p hp

theorem findK_ok {P : Program} : ∀ {T : Table} {f : Nat}, TableOk P T → (∀ id h args r, findK T f id h args = some r → CallOk P f (findK T f))
  | [], f, _ => fun id h args r e => by cases e
  | (g, k) :: T, f, hT => by
    intro id h args r e
    cases hb : Nat.beq g f with
    | true =>
      have hg := Nat.eq_of_beq_eq_true hb
      subst hg
      have e1 : findK ((g, k) :: T) g = k := by simp only [findK, hb]
      rw [e1]
      exact hT (g, k) (by simp)
    | false =>
      have e1 : findK ((g, k) :: T) f = findK T f := by simp only [findK, hb]
      rw [e1] at e ⊢
      exact findK_ok (fun p hp => hT p (by simp [hp])) id h args r e

/-- A program with a table of contracts; 'ns': the numbers of functions whose answers are slices. -/
def mkEnv (P : Program) (T : Table) (ns : List Nat) : Env := ⟨P, findK T, fun f => ns.any fun g => Nat.beq g f⟩

theorem mkEnv_ok {P : Program} {T : Table} {ns : List Nat} (hm : P.follows .mixedOrders = true) (hT : TableOk P T) : EnvOk (mkEnv P T ns) where
  mixed := hm
  call := fun f id h args r hr hp w0 β w hrel hid hok => (findK_ok hT id h args r hr).call id h args r hr hp w0 β w hrel hid hok
  near := fun f id h h' args r hr H => (findK_ok hT id h args r hr).near id h h' args r hr H

/-! ## readings -/

/-- How an argument is read: what it stands for in a world; of which named blocks that hangs. -/
structure Arg (α : Type) where
  rd : Heap → AV → Option (α × Pr × List Nat)
  is : World → Value → α → Prop
  ok : ∀ {w0 β h w v x p rs}, rd h v = some (x, p, rs) → p.holds → HRel w0 β h w → okv h v → is w (gv β v) x
  near : ∀ {h h' : Heap} {v x p} {rs : List Nat}, rd h v = some (x, p, rs) → (∀ i ∈ rs, h i = h' i) → rd h' v = some (x, p, rs)

/-- How a result is written. -/
structure Res (α : Type) where
  wr : Nat → α → AV
  new : α → Option Blk
  is : World → World → Value → α → Prop
  ok : ∀ {w0 β h w w' id v x}, HRel w0 β h w → h id = .un → Below w.heap.size w w' → is w w' v x → EffOk w0 β h id (wr id x) (newL id (new x)) v w'

/-- A reading of a value that bears no name. -/
def Arg.plain {α : Type} (rd : AV → Option α) (val : α → Value) (h : ∀ v x, rd v = some x → ∀ β, gv β v = val x) : Arg α where
  rd := fun _ v => match rd v with | some x => some (x, .t, []) | none => none
  is := fun _ v x => v = val x
  ok := fun {w0 β h' w v x p rs} e _ _ _ => by
    split at e
    · rename_i y hy; cases e; exact h v _ hy β
    · cases e
  near := fun {h h' v x p rs} e _ => e

def Res.plain {α : Type} (av : α → AV) (val : α → Value) (h : ∀ x β, gv β (av x) = val x) (hok : ∀ x hp, okv hp (av x)) : Res α where
  wr := fun _ x => av x
  new := fun _ => none
  is := fun _ _ v x => v = val x
  ok := fun {w0 β h' w w' id v x} hr hid hb e => by
    subst e
    rw [← h x β]
    exact EffOk.pure (hr.mono hb) (hok x h')

def cell1V (v : AV) : Option Cell := match v with | .one (.c x) => some x | _ => none

def β0 : Nat → Pl := fun _ => ⟨none, 0⟩

def argU64 : Arg UInt64 := Arg.plain (fun v => match v with | .one (.c x) => toU x | _ => none) (fun x => .int .u64 (x.toNat : Int)) (fun v x e β => by
  split at e
  · exact toU_gc β e
  · cases e)
def resU64 : Res UInt64 := Res.plain (fun x => .one (.c (.u64 x))) (fun x => .int .u64 (x.toNat : Int)) (fun x β => rfl) (fun x hp => okc_none rfl)

def argInt : Arg Int := Arg.plain (fun v => match v with | .one (.c x) => (match toI x with | some (.i64, n) => some n | _ => none) | _ => none) (fun n => .int .i64 n) (fun v x e β => by
  split at e
  · split at e
    · rename_i n hn; cases e; exact toI_gc β hn
    · cases e
  · cases e)
def resInt : Res Int := Res.plain (fun n => .one (.c (.int .i64 n))) (fun n => .int .i64 n) (fun x β => rfl) (fun x hp => okc_none rfl)

def argBool : Arg Bool := Arg.plain (fun v => match v with | .one (.c x) => toBool x | _ => none) (fun b => .bool b) (fun v x e β => by
  split at e
  · exact toBool_gc β e
  · cases e)
def resBool : Res Bool := Res.plain (fun b => .one (.c (.bool b))) (fun b => .bool b) (fun x β => rfl) (fun x hp => okc_none rfl)

/-- A carry. -/
def toBit (c : Cell) : Option Bool :=
  match c with
  | .bit b => some b
  | .lit .u64 (.ofNat 0) => some false
  | .lit .u64 (.ofNat 1) => some true
  | _ => none

def argBit : Arg Bool := Arg.plain (fun v => match v with | .one (.c x) => toBit x | _ => none) (fun b => .int .u64 ((b2u b).toNat : Int)) (fun v x e β => by
  split at e
  · rename_i c
    unfold toBit at e
    split at e <;> cases e <;> rfl
  · cases e)

/-- A kind of value that lies in a row of cells. -/
class Row (α : Type) where
  rd : List Cell → Option α
  cs : α → List Cell
  rd_ok : ∀ {xs x}, rd xs = some x → ∀ β, xs.map (gc β) = (cs x).map (gc β0)
  cs_ok : ∀ x β, (cs x).map (gc β) = (cs x).map (gc β0)
  cs_id : ∀ x, ∀ c ∈ cs x, c.idOf = none

def rowV {α : Type} [Row α] (x : α) : Value := .agg ((Row.cs x).map (gc β0)).toArray
def rowA {α : Type} [Row α] (x : α) : AV := .one (.agg (Row.cs x))

def argRow (α : Type) [Row α] : Arg α := Arg.plain (fun v => match v with | .one (.agg xs) => Row.rd xs | _ => none) rowV (fun v x e β => by
  split at e
  · simp only [gv, g1, rowV]; rw [Row.rd_ok e β]
  · cases e)

def resRow (α : Type) [Row α] : Res α := Res.plain rowA rowV (fun x β => by simp only [rowA, gv, g1, rowV]; rw [Row.cs_ok]) (fun x hp c hc => okc_none (Row.cs_id x c hc))

theorem rowA_gv {α : Type} [Row α] (x : α) (β : Nat → Pl) : gv β (rowA x) = rowV x := by simp only [rowA, gv, g1, rowV]; rw [Row.cs_ok]

/-! ## contracts -/

def K0 {ρ : Type} (r : Res ρ) (F : ρ) : Contract := fun id _ args =>
  match args with
  | [] => some ⟨r.wr id F, .t, [], r.new F⟩
  | _ => none

def K1 {α ρ : Type} (a : Arg α) (r : Res ρ) (F : α → ρ) : Contract := fun id h args =>
  match args with
  | [u] => match a.rd h u with
    | some (x, p, s) => some ⟨r.wr id (F x), p, s, r.new (F x)⟩
    | none => none
  | _ => none

def K2 {α β ρ : Type} (a : Arg α) (b : Arg β) (r : Res ρ) (F : α → β → ρ) : Contract := fun id h args =>
  match args with
  | [u, v] => match a.rd h u, b.rd h v with
    | some (x, p, s), some (y, q, t) => some ⟨r.wr id (F x y), p.and q, s ++ t, r.new (F x y)⟩
    | _, _ => none
  | _ => none

def K3 {α β γ ρ : Type} (a : Arg α) (b : Arg β) (c : Arg γ) (r : Res ρ) (F : α → β → γ → ρ) : Contract := fun id h args =>
  match args with
  | [u, v, w] => match a.rd h u, b.rd h v, c.rd h w with
    | some (x, p, s), some (y, q, t), some (z, o, u) => some ⟨r.wr id (F x y z), (p.and q).and o, s ++ t ++ u, r.new (F x y z)⟩
    | _, _, _ => none
  | _ => none

/-- What a function with a body promises. -/
def Gives {ρ : Type} (P : Program) (f : Nat) (args : Array Value) (w : World) (r : Res ρ) (x : ρ) : Prop :=
  Calls P f args w fun e w' => ∃ v, e = .returned v ∧ Below w.heap.size w w' ∧ r.is w w' v x

theorem Gives.runs {ρ : Type} {P : Program} {f : Nat} {fn : Func} (hf : P.funcs[f]? = some fn) (hb : fn.body.isSome = true) (hn : (fn.name == "runtime.NumGoroutine") = false) {args : Array Value} {w : World} {r : Res ρ} {x : ρ}
    (h : Gives P f args w r x) {w0 : World} {β : Nat → Pl} {hp : Heap} {id : Nat} (hr : HRel w0 β hp w) (hid : hp id = .un) : FnRuns P f args w (EffOk w0 β hp id (r.wr id x) (newL id (r.new x))) := by
  refine .inr ⟨?_, Calls.mono h fun e w' ⟨v, h1, h2, h3⟩ => ⟨v, h1, r.ok hr hid h2 h3⟩⟩
  have h1 : fn.name ≠ "runtime.NumGoroutine" := by simpa using hn
  simp [callFunc, hf, h1]
  intro e
  rw [e] at hb
  cases hb

/-- That a function has a body and is none of the model's own. -/
structure Bodied (P : Program) (f : Nat) : Prop where
  fn : ∃ fn, P.funcs[f]? = some fn ∧ fn.body.isSome = true ∧ (fn.name == "runtime.NumGoroutine") = false

theorem K0_ok {ρ : Type} {P : Program} {f : Nat} (hf : Bodied P f) {r : Res ρ} {F : ρ} (h : ∀ w, Gives P f #[] w r F) : CallOk P f (K0 r F) where
  call := fun id hp args res e _ w0 β w hr hid hok => by
    obtain ⟨fn, h1, h2, h3⟩ := hf.fn
    unfold K0 at e
    split at e
    · cases e
      exact (h w).runs h1 h2 h3 hr hid
    · cases e
  near := fun id h h' args res e _ => e

theorem K1_ok {α ρ : Type} {P : Program} {f : Nat} (hf : Bodied P f) {a : Arg α} {r : Res ρ} {F : α → ρ} (h : ∀ w v x, a.is w v x → Gives P f #[v] w r (F x)) : CallOk P f (K1 a r F) where
  call := fun id hp args res e hpre w0 β w hr hid hok => by
    obtain ⟨fn, h1, h2, h3⟩ := hf.fn
    unfold K1 at e
    split at e
    · rename_i u
      split at e
      · rename_i x p s hx
        cases e
        exact (h w _ x (a.ok hx hpre hr (hok u (by simp)))).runs h1 h2 h3 hr hid
      · cases e
    · cases e
  near := fun id h h' args res e H => by
    unfold K1 at e ⊢
    split at e
    · split at e
      · rename_i x p s hx
        cases e
        rw [a.near hx H]
      · cases e
    · cases e

theorem K2_ok {α β' ρ : Type} {P : Program} {f : Nat} (hf : Bodied P f) {a : Arg α} {b : Arg β'} {r : Res ρ} {F : α → β' → ρ} (h : ∀ w v x u y, a.is w v x → b.is w u y → Gives P f #[v, u] w r (F x y)) : CallOk P f (K2 a b r F) where
  call := fun id hp args res e hpre w0 β w hr hid hok => by
    obtain ⟨fn, h1, h2, h3⟩ := hf.fn
    unfold K2 at e
    split at e
    · rename_i u v
      split at e
      · rename_i x p s y q t hx hy
        cases e
        have hpre := Pr.and_holds hpre
        exact (h w _ x _ y (a.ok hx hpre.1 hr (hok u (by simp))) (b.ok hy hpre.2 hr (hok v (by simp)))).runs h1 h2 h3 hr hid
      · cases e
    · cases e
  near := fun id h h' args res e H => by
    unfold K2 at e ⊢
    split at e
    · split at e
      · rename_i x p s y q t hx hy
        cases e
        rw [a.near hx (fun i hi => H i (by simp [hi])), b.near hy (fun i hi => H i (by simp [hi]))]
      · cases e
    · cases e

theorem K3_ok {α β' γ ρ : Type} {P : Program} {f : Nat} (hf : Bodied P f) {a : Arg α} {b : Arg β'} {c : Arg γ} {r : Res ρ} {F : α → β' → γ → ρ}
    (h : ∀ w v x u y t z, a.is w v x → b.is w u y → c.is w t z → Gives P f #[v, u, t] w r (F x y z)) : CallOk P f (K3 a b c r F) where
  call := fun id hp args res e hpre w0 β w hr hid hok => by
    obtain ⟨fn, h1, h2, h3⟩ := hf.fn
    unfold K3 at e
    split at e
    · rename_i u v q
      split at e
      · rename_i x p s y p2 t z p3 s2 hx hy hz
        cases e
        have hpre := Pr.and_holds hpre
        have hpre' := Pr.and_holds hpre.1
        exact (h w _ x _ y _ z (a.ok hx hpre'.1 hr (hok u (by simp))) (b.ok hy hpre'.2 hr (hok v (by simp))) (c.ok hz hpre.2 hr (hok q (by simp)))).runs h1 h2 h3 hr hid
      · cases e
    · cases e
  near := fun id h h' args res e H => by
    unfold K3 at e ⊢
    split at e
    · split at e
      · rename_i x p s y p2 t z p3 s2 hx hy hz
        cases e
        rw [a.near hx (fun i hi => H i (by simp [hi])), b.near hy (fun i hi => H i (by simp [hi])), c.near hz (fun i hi => H i (by simp [hi]))]
      · cases e
    · cases e

/-! ## a function's contract by its run -/

/-- The tree of a run gives a value of a kind: every way ends in it. -/
def Tree.gives {ρ : Type} (t : Tree (AV × List HE)) (av : ρ → AV) (x : ρ) : Prop := t.sat fun q => q.1 = av x

theorem HRel.start (w : World) (β : Nat → Pl) : HRel w β (hpS []) w where
  below := Below.refl _ _
  blk := fun i b h => by simp [hpS, nth] at h
  sep := fun i j b c h => by simp [hpS, nth] at h
  okc := fun i b h => by simp [hpS, nth] at h

/-- A function that takes and gives values without names. -/
theorem gives_run {ρ : Type} {E : Env} (hE : EnvOk E) {f : FuncId} {fn : Func} (hf : E.P.funcs[f]? = some fn) (fuel : Nat) (avs : List AV) (hok : ∀ v ∈ avs, okv (hpS []) v) {av : ρ → AV} {val : ρ → Value}
    {h1 : ∀ x β, gv β (av x) = val x} {h2 : ∀ x hp, okv hp (av x)} (x : ρ) (w : World) (h : (runFn E fuel fn avs []).sat fun q => q.1 = av x) :
    Gives E.P f (avs.map (gv β0)).toArray w (Res.plain av val h1 h2) x := by
  refine calls_run hE hf (HRel.start w β0) hok (Tree.sat_mono (fun q hq β' w' hr _ => ?_) h)
  exact ⟨_, rfl, hr.below, by rw [hq]; exact h1 x β'⟩

end Go.Proofs.Ytfkmooldindfjaa
