/- Contracts of plain functions with any number of arguments; functions and known numbers as arguments. -/
import Derived.Test.YtchlamfdofpolaaEE
set_option linter.unusedSimpArgs false
set_option linter.unusedVariables false
namespace Go.Proofs.Ytchlamfdofpolaa
open Go.RowKit

/-- A known function as an argument. -/
def kFn (n : Nat) : Kd Unit where
  rd := fun v => match v with | .c (.fn k) => (match Nat.beq k n with | true => some () | false => none) | _ => none
  av := fun _ => .c (.fn n)
  val := fun _ => gc β0 (.fn n)
  rd_ok := fun v x e β => by
    split at e
    · split at e
      · rename_i k hk
        rw [Nat.eq_of_beq_eq_true hk]
        rfl
      · cases e
    · cases e
  av_ok := fun x β => rfl
  av_id := fun x h => okc_none rfl

def kU8 : Kd UInt8 where
  rd := fun v => match v with | .c x => toB x | _ => none
  av := fun x => .c (.u8 x)
  val := fun x => .int .u8 (x.toNat : Int)
  rd_ok := fun v x e β => by
    split at e
    · exact toB_gc β e
    · cases e
  av_ok := fun x β => rfl
  av_id := fun x h => okc_none rfl

/-- A known number as an argument. -/
def kLit (n : Nat) : Kd Unit where
  rd := fun v => match v with
    | .c (.lit .i64 (.ofNat k)) => (match Nat.beq k n with | true => some () | false => none)
    | .c (.int .i64 (.ofNat k)) => (match Nat.beq k n with | true => some () | false => none)
    | _ => none
  av := fun _ => .c (.lit .i64 (.ofNat n))
  val := fun _ => .int .i64 (.ofNat n)
  rd_ok := fun v x e β => by
    split at e
    · split at e
      · rename_i k hk
        rw [Nat.eq_of_beq_eq_true hk]
        rfl
      · cases e
    · split at e
      · rename_i k hk
        rw [Nat.eq_of_beq_eq_true hk]
        rfl
      · cases e
    · cases e
  av_ok := fun x β => rfl
  av_id := fun x h => okc_none rfl

/-- Kinds of several arguments. -/
structure KdL (α : Type) where
  rd : List AV → Option α
  avs : α → List AV
  vals : α → List Value
  rd_ok : ∀ vs x, rd vs = some x → ∀ β, vs.map (gv β) = vals x
  av_ok : ∀ x β, (avs x).map (gv β) = vals x
  av_id : ∀ x h, ∀ v ∈ avs x, okv h v

def KdL.nil : KdL Unit where
  rd := fun vs => match vs with | [] => some () | _ => none
  avs := fun _ => []
  vals := fun _ => []
  rd_ok := fun vs x e β => by
    split at e
    · rfl
    · cases e
  av_ok := fun _ _ => rfl
  av_id := fun _ _ v hv => by cases hv

def KdL.cons {α γ : Type} (k : Kd α) (l : KdL γ) : KdL (α × γ) where
  rd := fun vs => match vs with
    | .one v :: rest => match k.rd v, l.rd rest with
      | some x, some y => some (x, y)
      | _, _ => none
    | _ => none
  avs := fun x => .one (k.av x.1) :: l.avs x.2
  vals := fun x => k.val x.1 :: l.vals x.2
  rd_ok := fun vs x e β => by
    split at e
    · split at e
      · rename_i h1 h2
        cases e
        simp only [List.map_cons, gv, k.rd_ok _ _ h1 β, l.rd_ok _ _ h2 β]
      · cases e
    · cases e
  av_ok := fun x β => by simp only [List.map_cons, gv, k.av_ok, l.av_ok]
  av_id := fun x h v hv => by
    rcases List.mem_cons.1 hv with rfl | hv
    · exact k.av_id x.1 h
    · exact l.av_id x.2 h v hv

def KN {α ρ : Type} (k : KdL α) (r : Res ρ) (F : α → ρ) : Contract := fun id h args => match k.rd args with
  | some x => some ⟨r.wr id (F x), .t, [], r.new (F x), []⟩
  | none => none

theorem KN_ok {α ρ : Type} {P : Program} {f : Nat} (hf : Bodied P f) {k : KdL α} {r : Res ρ} {F : α → ρ} (h : ∀ w x, Gives P f (k.vals x).toArray w r (F x)) : CallOk P f (KN k r F) where
  call := fun id hp args res e hpre w0 β w hr hid hok => by
    obtain ⟨fn, h1, h2, h3⟩ := hf.fn
    unfold KN at e
    split at e
    · rename_i x hx
      cases e
      rw [k.rd_ok _ _ hx β]
      exact (h w x).runs h1 h2 h3 hr hid
    · cases e
  near := fun id h h' args res e H => by
    unfold KN at e ⊢
    split at e
    · exact e
    · cases e
  wrote := fun id h args res e => by
    unfold KN at e
    split at e
    · cases e; simp
    · cases e

theorem PN {α ρ : Type} {E : Env} (hE : EnvOk E) {f : FuncId} {fn : Func} (hf : E.P.funcs[f]? = some fn) (hb : Bodied E.P f) (fuel : Nat) (k : KdL α) (r : Rs ρ) (F : α → ρ) {T : α → Tree (Option ρ)}
    (e : ∀ x, plainRun E r fuel fn (k.avs x) = T x) (h : ∀ x, (T x).sat fun q => q = some (F x)) : CallOk E.P f (KN k r.res F) :=
  KN_ok hb fun w x => by
    have := gives_plain hE hf fuel (k.avs x) (k.av_id x _) w (e x) (h x)
    rw [k.av_ok] at this
    exact this

/-- What a plain function gives at given arguments. -/
theorem plain_gives {α ρ : Type} {E : Env} (hE : EnvOk E) {f : FuncId} {fn : Func} (hf : E.P.funcs[f]? = some fn) (fuel : Nat) (k : KdL α) (r : Rs ρ) (x : α) {y : ρ} {T : Tree (Option ρ)}
    (e : plainRun E r fuel fn (k.avs x) = T) (h : T.sat fun q => q = some y) (w : World) : Gives E.P f (k.vals x).toArray w r.res y := by
  have := gives_plain hE hf fuel (k.avs x) (k.av_id x _) w e h
  rw [k.av_ok] at this
  exact this

/-- One contract, and where it says nothing another. -/
def KOr (K L : Contract) : Contract := fun id h args => match K id h args with
  | some r => some r
  | none => L id h args
theorem KOr_ok {P : Program} {f : Nat} {K L : Contract} (h1 : CallOk P f K) (h2 : CallOk P f L) (hi : ∀ id h h' args, K id h args = K id h' args) : CallOk P f (KOr K L) where
  call := fun id h args r e => by
    unfold KOr at e
    split at e
    · rename_i r' hr
      cases e
      exact h1.call id h args r hr
    · exact h2.call id h args r e
  near := fun id h h' args r e H => by
    unfold KOr at e ⊢
    rw [hi id h' h args]
    split at e
    · exact e
    · exact h2.near id h h' args r e H
  wrote := fun id h args r e => by
    unfold KOr at e
    split at e
    · rename_i r' hr
      cases e
      exact h1.wrote id h args r hr
    · exact h2.wrote id h args r e
theorem KN_still {α ρ : Type} (k : KdL α) (r : Res ρ) (F : α → ρ) : ∀ id h h' args, KN k r F id h args = KN k r F id h' args := fun _ _ _ _ => rfl

/-- Two arguments that must fit each other. -/
def K2c {α β ρ : Type} (a : Arg α) (b : Arg β) (c : α → β → Prop) (r : Res ρ) (F : α → β → ρ) : Contract := fun id h args =>
  match args with
  | [u, v] => match a.rd h u, b.rd h v with
    | some (x, p, s), some (y, q, t) => some ⟨r.wr id (F x y), (p.and q).and (.p (c x y)), s ++ t, r.new (F x y), []⟩
    | _, _ => none
  | _ => none

theorem K2c_ok {α β' ρ : Type} {P : Program} {f : Nat} (hf : Bodied P f) {a : Arg α} {b : Arg β'} {c : α → β' → Prop} {r : Res ρ} {F : α → β' → ρ} (h : ∀ w v x u y, a.is w v x → b.is w u y → c x y → Gives P f #[v, u] w r (F x y)) : CallOk P f (K2c a b c r F) where
  call := fun id hp args res e hpre w0 β w hr hid hok => by
    obtain ⟨fn, h1, h2, h3⟩ := hf.fn
    unfold K2c at e
    split at e
    · rename_i u v
      split at e
      · rename_i x p s y q t hx hy
        cases e
        have hpre := Pr.and_holds hpre
        have hpre' := Pr.and_holds hpre.1
        exact (h w _ x _ y (a.ok hx hpre'.1 hr (hok u (by simp))) (b.ok hy hpre'.2 hr (hok v (by simp))) hpre.2).runs h1 h2 h3 hr hid
      · cases e
    · cases e
  near := fun id h h' args res e H => by
    unfold K2c at e ⊢
    split at e
    · split at e
      · rename_i x p s y q t hx hy
        cases e
        rw [a.near hx (fun i hi => H i (by simp [hi])), b.near hy (fun i hi => H i (by simp [hi]))]
      · cases e
    · cases e
  wrote := fun id h args res e => by
    unfold K2c at e
    split at e
    · split at e
      · cases e; simp
      · cases e
    · cases e

theorem G2c {α γ ρ : Type} {E : Env} {f : FuncId} {fn : Func} (hf : E.P.funcs[f]? = some fn) {c : Code} (hb : fn.body = some c) (hd : Bodied E.P f) (a : Inp α) (b : Inp γ) (k : α → γ → Prop) (o : Out ρ) (F : α → γ → ρ)
    (h : ∀ x y, a.fact x → b.fact y → k x y → DoesL E (flat c) (startSt fn [a.av 0 x, b.av (a.hes x).length y] (a.hes x ++ b.hes y)) (EndsAs E fn (Reads o (F x y)))) : CallOk E.P f (K2c a.arg b.arg k o.res F) :=
  K2c_ok hd fun w v x u y hv hu hk => G2g hf hb a b o (F x y) hv hu fun h1 h2 => h x y h1 h2 hk

end Go.Proofs.Ytchlamfdofpolaa
