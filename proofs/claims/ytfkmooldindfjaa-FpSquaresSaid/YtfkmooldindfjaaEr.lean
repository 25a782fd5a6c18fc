/- The executor, part r: contracts of the two sums with carries; functions of one way. -/
import Derived.Test.YtfkmooldindfjaaEq
import Derived.Laws.Externs
set_option linter.unusedSimpArgs false
set_option linter.unusedVariables false
namespace Go.Proofs.Ytfkmooldindfjaa
open Go.RowKit

def addS (x y : UInt64) (c : Bool) : UInt64 := x + y + b2u c
def addC (x y : UInt64) (c : Bool) : Bool := Nat.ble 18446744073709551616 (x.toNat + y.toNat + (b2u c).toNat)
def subS (x y : UInt64) (c : Bool) : UInt64 := x - y - b2u c
def subB (x y : UInt64) (c : Bool) : Bool := Nat.blt x.toNat (y.toNat + (b2u c).toNat)

theorem b2u_nat (b : Bool) : (b2u b).toNat = b.toNat := by cases b <;> rfl

theorem addS_nat (x y : UInt64) (c : Bool) : (addS x y c).toNat = (x.toNat + y.toNat + c.toNat) % 18446744073709551616 := by
  simp only [addS, UInt64.toNat_add, b2u_nat]; omega
theorem addC_nat (x y : UInt64) (c : Bool) : (addC x y c).toNat = (x.toNat + y.toNat + c.toNat) / 18446744073709551616 := by
  have hx := x.toNat_lt
  have hy := y.toNat_lt
  have hc : c.toNat ≤ 1 := by cases c <;> simp
  unfold addC
  rw [b2u_nat]
  cases e : Nat.ble 18446744073709551616 (x.toNat + y.toNat + c.toNat) with
  | true => have := Nat.le_of_ble_eq_true e; simp only [Bool.toNat_true]; omega
  | false =>
    have : ¬ 18446744073709551616 ≤ x.toNat + y.toNat + c.toNat := fun h => by rw [Nat.ble_eq_true_of_le h] at e; cases e
    simp only [Bool.toNat_false]; omega
theorem subS_nat (x y : UInt64) (c : Bool) : (subS x y c).toNat = (x.toNat + 18446744073709551616 - y.toNat - c.toNat) % 18446744073709551616 := by
  have hx := x.toNat_lt
  have hy := y.toNat_lt
  have hc : c.toNat ≤ 1 := by cases c <;> simp
  simp only [subS, UInt64.toNat_sub, b2u_nat]; omega
theorem subB_iff (x y : UInt64) (c : Bool) : subB x y c = decide (x.toNat < y.toNat + c.toNat) := by
  unfold subB
  rw [b2u_nat]
  cases e : Nat.blt x.toNat (y.toNat + c.toNat) with
  | true => have := Nat.le_of_ble_eq_true e; exact (decide_eq_true (show x.toNat < y.toNat + c.toNat from this)).symm
  | false =>
    have : ¬ x.toNat < y.toNat + c.toNat := fun h => by rw [show Nat.blt x.toNat (y.toNat + c.toNat) = true from Nat.ble_eq_true_of_le h] at e; cases e
    exact (decide_eq_false this).symm

/-- A function without a body, that gives two numbers of three. -/
def K3x (S : UInt64 → UInt64 → Bool → UInt64) (C : UInt64 → UInt64 → Bool → Bool) : Contract := fun _ h args =>
  match args with
  | [u, v, w] => match argU64.rd h u, argU64.rd h v, argBit.rd h w with
    | some (x, _, _), some (y, _, _), some (z, _, _) => some ⟨.tup [.c (.u64 (S x y z)), .c (.bit (C x y z))], .t, [], none⟩
    | _, _, _ => none
  | _ => none

theorem K3x_ok {P : Program} {f : Nat} {S : UInt64 → UInt64 → Bool → UInt64} {C : UInt64 → UInt64 → Bool → Bool}
    (h : ∀ x y c w, (callFunc f #[.int .u64 (x.toNat : Int), .int .u64 (y.toNat : Int), .int .u64 ((b2u c).toNat : Int)]).run P w = .ok (.value (.tuple #[.int .u64 ((S x y c).toNat : Int), .int .u64 ((b2u (C x y c)).toNat : Int)])) w) :
    CallOk P f (K3x S C) where
  call := fun id hp args res e _ w0 β w hr hid hok => by
    unfold K3x at e
    split at e
    · rename_i u v q
      split at e
      · rename_i x p1 s y p2 t z p3 s2 hx hy hz
        cases e
        have e1 : gv β u = _ := argU64.ok hx (by simp only [argU64, Arg.plain] at hx; split at hx <;> cases hx; trivial) hr (hok u (by simp))
        have e2 : gv β v = _ := argU64.ok hy (by simp only [argU64, Arg.plain] at hy; split at hy <;> cases hy; trivial) hr (hok v (by simp))
        have e3 : gv β q = _ := argBit.ok hz (by simp only [argBit, Arg.plain] at hz; split at hz <;> cases hz; trivial) hr (hok q (by simp))
        refine .inl ⟨gv β (.tup [.c (.u64 (S x y z)), .c (.bit (C x y z))]), w, ?_, ?_⟩
        · simp only [List.map_cons, List.map_nil, e1, e2, e3]
          exact h x y z w
        · refine EffOk.pure hr ?_
          intro v hv
          simp only [List.mem_cons, List.not_mem_nil, or_false] at hv
          rcases hv with rfl | rfl <;> exact okc_none rfl
      · cases e
    · cases e
  near := fun id h h' args res e H => e

def subEntry : Array Value → Sem Value := (Extern.MathBitsCarry.rows.getD 1 ("", fun _ => pure default)).2

theorem run_subEntry {P : Program} (x y b : Nat) (hb : b ≤ 1) (w : World) :
    (subEntry #[.int .u64 x, .int .u64 y, .int .u64 b]).run P w =
      .ok (.tuple #[.int .u64 (((x + 18446744073709551616 - y - b) % 18446744073709551616 : Nat) : Int), .int .u64 ((if x < y + b then 1 else 0 : Nat) : Int)]) w := by
  have : b = 0 ∨ b = 1 := by omega
  rcases this with rfl | rfl <;> rfl

theorem Kadd_ok {P : Program} {f : Nat} {fn : Func} (hf : P.funcs[f]? = some fn) (h1 : (fn.name == "runtime.NumGoroutine") = false) (h2 : fn.body.isNone = true) (h3 : Extern.findNext fn = none)
    (h4 : Extern.find fn = some add64Entry) : CallOk P f (K3x addS addC) := K3x_ok fun x y c w => by
  rw [run_callFunc_extern hf h1 h2 h3 h4, run_add64 _ _ _ (by omega) (by omega) (by omega) (by cases c <;> simp [b2u])]
  simp only [Result.andThen, addS_nat, b2u_nat, addC_nat]
  congr 5

theorem Ksub_ok {P : Program} {f : Nat} {fn : Func} (hf : P.funcs[f]? = some fn) (h1 : (fn.name == "runtime.NumGoroutine") = false) (h2 : fn.body.isNone = true) (h3 : Extern.findNext fn = none)
    (h4 : Extern.find fn = some subEntry) : CallOk P f (K3x subS subB) := K3x_ok fun x y c w => by
  rw [run_callFunc_extern hf h1 h2 h3 h4, run_subEntry _ _ _ (by cases c <;> simp [b2u])]
  simp only [Result.andThen, subS_nat, b2u_nat, subB_iff]
  congr 6
  by_cases h : x.toNat < y.toNat + c.toNat <;> simp [h]

/-! ## functions of one way -/

theorem Tree.map_leaf_sat {α β : Type} (f : α → β) {t : Tree α} {b : β} (h : t.map f = .leaf b) : t.sat fun a => f a = b := by
  cases t with
  | leaf a => simp only [Tree.map, Tree.leaf.injEq] at h; exact h
  | br => cases h
  | vc => cases h
  | fail => cases h

theorem Tree.sat_map {α β : Type} (f : α → β) {t : Tree α} {Q : β → Prop} (h : (t.map f).sat Q) : t.sat fun a => Q (f a) := by
  induction t with
  | leaf a => exact h
  | br b t g iht ihg => exact ⟨fun e => iht (h.1 e), fun e => ihg (h.2 e)⟩
  | vc p t ih => exact ⟨h.1, fun e => ih (h.2 e)⟩
  | fail => exact h

/-! ## kinds of values without names -/

structure Kd (α : Type) where
  rd : AV1 → Option α
  av : α → AV1
  val : α → Value
  rd_ok : ∀ v x, rd v = some x → ∀ β, g1 β v = val x
  av_ok : ∀ x β, g1 β (av x) = val x
  av_id : ∀ x h, ok1 h (av x)

def Kd.arg {α : Type} (k : Kd α) : Arg α := Arg.plain (fun v => match v with | .one u => k.rd u | .tup _ => none) k.val (fun v x e β => by
  split at e
  · exact k.rd_ok _ _ e β
  · cases e)

/-- A result: how it is read off a run, and written into one. -/
structure Rs (α : Type) where
  rd : AV → Option α
  av : α → AV
  val : α → Value
  rd_ok : ∀ v x, rd v = some x → ∀ β, gv β v = val x
  av_ok : ∀ x β, gv β (av x) = val x
  av_id : ∀ x h, okv h (av x)

def Rs.res {α : Type} (r : Rs α) : Res α := Res.plain r.av r.val r.av_ok r.av_id

def Kd.rs {α : Type} (k : Kd α) : Rs α where
  rd := fun v => match v with | .one u => k.rd u | .tup _ => none
  av := fun x => .one (k.av x)
  val := k.val
  rd_ok := fun v x e β => by
    split at e
    · exact k.rd_ok _ _ e β
    · cases e
  av_ok := fun x β => k.av_ok x β
  av_id := fun x h => k.av_id x h

def Kd.rs2 {α β : Type} (k : Kd α) (l : Kd β) : Rs (α × β) where
  rd := fun v => match v with
    | .tup [a, b] => match k.rd a, l.rd b with
      | some x, some y => some (x, y)
      | _, _ => none
    | _ => none
  av := fun x => .tup [k.av x.1, l.av x.2]
  val := fun x => .tuple #[k.val x.1, l.val x.2]
  rd_ok := fun v x e β => by
    split at e
    · split at e
      · rename_i h1 h2
        cases e
        simp only [gv, List.map_cons, List.map_nil, k.rd_ok _ _ h1 β, l.rd_ok _ _ h2 β]
      · cases e
    · cases e
  av_ok := fun x β => by simp only [gv, List.map_cons, List.map_nil, k.av_ok, l.av_ok]
  av_id := fun x h v hv => by
    simp only [List.mem_cons, List.not_mem_nil, or_false] at hv
    rcases hv with rfl | rfl
    · exact k.av_id x.1 h
    · exact l.av_id x.2 h

def kU64 : Kd UInt64 where
  rd := fun v => match v with | .c x => toU x | _ => none
  av := fun x => .c (.u64 x)
  val := fun x => .int .u64 (x.toNat : Int)
  rd_ok := fun v x e β => by
    split at e
    · exact toU_gc β e
    · cases e
  av_ok := fun x β => rfl
  av_id := fun x h => okc_none rfl

def kInt : Kd Int where
  rd := fun v => match v with | .c x => (match toI x with | some (.i64, n) => some n | _ => none) | _ => none
  av := fun n => .c (.int .i64 n)
  val := fun n => .int .i64 n
  rd_ok := fun v x e β => by
    split at e
    · split at e
      · rename_i n hn; cases e; exact toI_gc β hn
      · cases e
    · cases e
  av_ok := fun x β => rfl
  av_id := fun x h => okc_none rfl

def kBool : Kd Bool where
  rd := fun v => match v with | .c x => toBool x | _ => none
  av := fun b => .c (.bool b)
  val := fun b => .bool b
  rd_ok := fun v x e β => by
    split at e
    · exact toBool_gc β e
    · cases e
  av_ok := fun x β => rfl
  av_id := fun x h => okc_none rfl

def kRow (α : Type) [Row α] : Kd α where
  rd := fun v => match v with | .agg xs => Row.rd xs | _ => none
  av := fun x => .agg (Row.cs x)
  val := rowV
  rd_ok := fun v x e β => by
    split at e
    · simp only [g1, rowV]; rw [Row.rd_ok e β]
    · cases e
  av_ok := fun x β => by simp only [g1, rowV]; rw [Row.cs_ok]
  av_id := fun x h c hc => okc_none (Row.cs_id x c hc)

/-- A plain function's answers, as the tree of its ways. -/
def plainRun {ρ : Type} (E : Env) (r : Rs ρ) (fuel : Nat) (fn : Func) (avs : List AV) : Tree (Option ρ) := (runFn E fuel fn avs []).map fun q => r.rd q.1

theorem gives_plain {ρ : Type} {E : Env} (hE : EnvOk E) {f : FuncId} {fn : Func} (hf : E.P.funcs[f]? = some fn) (fuel : Nat) (avs : List AV) (hok : ∀ v ∈ avs, okv (hpS []) v) {r : Rs ρ}
    {x : ρ} (w : World) {T : Tree (Option ρ)} (e : plainRun E r fuel fn avs = T) (h : T.sat fun q => q = some x) :
    Gives E.P f (avs.map (gv β0)).toArray w r.res x := by
  refine calls_run hE hf (HRel.start w β0) hok (Tree.sat_mono (fun q hq β' w' hr _ => ?_) (Tree.sat_map (Q := fun q => q = some x) (fun q : AV × List HE => r.rd q.1) (by unfold plainRun at e; rw [e]; exact h)))
  exact ⟨_, rfl, hr.below, r.rd_ok _ _ hq β'⟩

theorem Tree.sat_leaf {α : Type} {a b : α} (h : a = b) : (Tree.leaf a).sat fun q => q = b := h

theorem P0 {ρ : Type} {E : Env} (hE : EnvOk E) {f : FuncId} {fn : Func} (hf : E.P.funcs[f]? = some fn) (hb : Bodied E.P f) (fuel : Nat) (r : Rs ρ) (F : ρ) {T : Tree (Option ρ)}
    (e : plainRun E r fuel fn [] = T) (h : T.sat fun q => q = some F) : CallOk E.P f (K0 r.res F) :=
  K0_ok hb fun w => gives_plain hE hf fuel [] (by simp) w e h

theorem P1 {α ρ : Type} {E : Env} (hE : EnvOk E) {f : FuncId} {fn : Func} (hf : E.P.funcs[f]? = some fn) (hb : Bodied E.P f) (fuel : Nat) (a : Kd α) (r : Rs ρ) (F : α → ρ) {T : α → Tree (Option ρ)}
    (e : ∀ x, plainRun E r fuel fn [.one (a.av x)] = T x) (h : ∀ x, (T x).sat fun q => q = some (F x)) : CallOk E.P f (K1 a.arg r.res F) :=
  K1_ok hb fun w v x hv => by
    have := gives_plain hE hf fuel [.one (a.av x)] (by simp only [List.mem_singleton]; rintro v rfl; exact a.av_id x _) w (e x) (h x)
    simp only [List.map_cons, List.map_nil, gv, a.av_ok] at this
    rw [show v = a.val x from hv]
    exact this

theorem P2 {α β ρ : Type} {E : Env} (hE : EnvOk E) {f : FuncId} {fn : Func} (hf : E.P.funcs[f]? = some fn) (hb : Bodied E.P f) (fuel : Nat) (a : Kd α) (b : Kd β) (r : Rs ρ) (F : α → β → ρ) {T : α → β → Tree (Option ρ)}
    (e : ∀ x y, plainRun E r fuel fn [.one (a.av x), .one (b.av y)] = T x y) (h : ∀ x y, (T x y).sat fun q => q = some (F x y)) : CallOk E.P f (K2 a.arg b.arg r.res F) :=
  K2_ok hb fun w v x u y hv hu => by
    have := gives_plain hE hf fuel [.one (a.av x), .one (b.av y)] (by
      intro v hv
      simp only [List.mem_cons, List.not_mem_nil, or_false] at hv
      rcases hv with rfl | rfl
      · exact a.av_id x _
      · exact b.av_id y _) w (e x y) (h x y)
    simp only [List.map_cons, List.map_nil, gv, a.av_ok, b.av_ok] at this
    rw [show v = a.val x from hv, show u = b.val y from hu]
    exact this

theorem P3 {α β γ ρ : Type} {E : Env} (hE : EnvOk E) {f : FuncId} {fn : Func} (hf : E.P.funcs[f]? = some fn) (hb : Bodied E.P f) (fuel : Nat) (a : Kd α) (b : Kd β) (c : Kd γ) (r : Rs ρ) (F : α → β → γ → ρ) {T : α → β → γ → Tree (Option ρ)}
    (e : ∀ x y z, plainRun E r fuel fn [.one (a.av x), .one (b.av y), .one (c.av z)] = T x y z) (h : ∀ x y z, (T x y z).sat fun q => q = some (F x y z)) : CallOk E.P f (K3 a.arg b.arg c.arg r.res F) :=
  K3_ok hb fun w v x u y t z hv hu ht => by
    have := gives_plain hE hf fuel [.one (a.av x), .one (b.av y), .one (c.av z)] (by
      intro v hv
      simp only [List.mem_cons, List.not_mem_nil, or_false] at hv
      rcases hv with rfl | rfl | rfl
      · exact a.av_id x _
      · exact b.av_id y _
      · exact c.av_id z _) w (e x y z) (h x y z)
    simp only [List.map_cons, List.map_nil, gv, a.av_ok, b.av_ok, c.av_ok] at this
    rw [show v = a.val x from hv, show u = b.val y from hu, show t = c.val z from ht]
    exact this

end Go.Proofs.Ytfkmooldindfjaa
