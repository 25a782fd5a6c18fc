/- The executor, part u: how arguments are given to a run, and answers are read off it. -/
import Derived.Test.YtfkmooldindfjaaEt
set_option linter.unusedSimpArgs false
set_option linter.unusedVariables false
namespace Go.Proofs.Ytfkmooldindfjaa
open Go.RowKit

theorem gv_agree {β β' : Nat → Pl} {heap : List HE} (h : ∀ i, i < heap.length → β' i = β i) {v : AV} (hv : okv (hpS heap) v) : gv β' v = gv β v := by
  have hc : ∀ c, okc (hpS heap) c → gc β' c = gc β c := fun c hc => gc_congr fun i hi => h i (hpS_lt (hc i hi))
  have h1 : ∀ u, ok1 (hpS heap) u → g1 β' u = g1 β u := by
    intro u hu
    cases u with
    | c x => exact hc x hu
    | agg xs => simp only [g1]; congr 2; exact List.map_congr_left fun c hx => hc c (hu c hx)
  cases v with
  | one u => exact h1 u hv
  | tup us => simp only [gv]; congr 2; exact List.map_congr_left fun c hx => h1 c (hv c hx)

theorem grows_append (heap more : List HE) : Grows (hpS heap) (hpS (heap ++ more)) := fun i hi => by
  have := hpS_lt hi
  rw [hpS_get] at hi ⊢
  rw [List.getElem?_append_left this]
  exact hi

/-- How an argument is given to a run. -/
structure Inp (α : Type) where
  arg : Arg α
  av : Nat → α → AV
  hes : α → List HE
  fact : α → Prop
  known : ∀ {w v x}, arg.is w v x → fact x
  intro : ∀ {w0 β} {heap : List HE} {w v x}, HRel w0 β (hpS heap) w → w0.heap.size = w.heap.size → arg.is w v x →
    ∃ β', HRel w0 β' (hpS (heap ++ hes x)) w ∧ gv β' (av heap.length x) = v ∧ okv (hpS (heap ++ hes x)) (av heap.length x) ∧ ∀ i, i < heap.length → β' i = β i

def Kd.inp {α : Type} (k : Kd α) : Inp α where
  arg := k.arg
  av := fun _ x => .one (k.av x)
  hes := fun _ => []
  fact := fun _ => True
  known := fun _ => trivial
  intro := fun {w0 β heap w v x} hr _ hv => ⟨β, by rw [List.append_nil]; exact hr, by simp only [gv, k.av_ok]; exact hv.symm, k.av_id x _, fun _ _ => rfl⟩

def inpSl {α : Type} (el : El α) : Inp (List α) where
  arg := argSl el
  av := fun n x => inV n x
  hes := fun x => [inHE el x]
  fact := fun x => x.length < topLen
  known := fun {w v x} h => by obtain ⟨_, _, _, h, _⟩ := h; exact h
  intro := fun {w0 β heap w v x} hr hw hv => by
    obtain ⟨p, h1, h2, h3⟩ := hr.slice hw hv
    exact ⟨_, h1, h2, h3, fun i hi => upd_ne _ _ (by omega)⟩

/-- How answers are read off a run. -/
structure Out (ρ : Type) where
  res : Res ρ
  rd : List HE → AV → Option (ρ × Pr)
  ok : ∀ {w β hp w' v x p}, rd hp v = some (x, p) → p.holds → HRel w β (hpS hp) w' → okv (hpS hp) v → res.is w w' (gv β v) x

def Rs.out {ρ : Type} (r : Rs ρ) : Out ρ where
  res := r.res
  rd := fun _ v => match r.rd v with | some x => some (x, .t) | none => none
  ok := fun {w β hp w' v x p} h _ _ _ => by
    split at h
    · rename_i y hy; cases h; exact r.rd_ok _ _ hy β
    · cases h

def Reads {ρ : Type} (o : Out ρ) (x : ρ) : AV → List HE → Prop := fun v hp => ∃ p, o.rd hp v = some (x, p) ∧ p.holds

/-- The last pieces of a function, and what it answers. -/
def endT {ρ : Type} (E : Env) (o : Out ρ) (n : Nat) (fn : Func) (cs : List Code) (st : St) : Tree (Option (ρ × Pr)) := (execL E n cs st).bind fun q => match q.1 with
  | .normal | .ret => match resAll E.P fn.results.toList q.2 with
    | some v => .leaf (o.rd q.2.heap v)
    | none => .fail
  | _ => .fail

theorem DoesL.ends {ρ : Type} {E : Env} (hE : EnvOk E) {o : Out ρ} (n : Nat) {fn : Func} {cs : List Code} {st : St} {x : ρ} {T : Tree (Option (ρ × Pr))} (e : endT E o n fn cs st = T) (h : T.sat fun q => ∃ p, q = some (x, p) ∧ p.holds) :
    DoesL E cs st (EndsAs E fn (Reads o x)) := by
  subst e
  refine DoesL.exec hE n ?_
  unfold endT at h
  rw [Tree.sat_bind] at h
  refine Tree.sat_mono (fun q hq => ?_) h
  obtain ⟨e, s⟩ := q
  have fin : (match resAll E.P fn.results.toList s with | some v => Tree.leaf (o.rd s.heap v) | none => .fail).sat (fun q => ∃ p, q = some (x, p) ∧ p.holds) → ∃ v, resAll E.P fn.results.toList s = some v ∧ Reads o x v s.heap := by
    intro h
    split at h
    · rename_i v hv
      exact ⟨v, hv, h⟩
    · exact h.elim
  cases e with
  | normal => exact ⟨trivial, fin hq⟩
  | ret => exact ⟨trivial, fin hq⟩
  | exit id => exact hq.elim
  | goto l => exact hq.elim

theorem gives_ends {ρ : Type} {E : Env} {f : FuncId} {fn : Func} (hf : E.P.funcs[f]? = some fn) {c : Code} (hb : fn.body = some c) {avs : List AV} {heap : List HE} {β : Nat → Pl} {w : World} (hr : HRel w β (hpS heap) w)
    (hok : ∀ v ∈ avs, okv (hpS heap) v) {o : Out ρ} {x : ρ} (h : DoesL E (flat c) (startSt fn avs heap) (EndsAs E fn (Reads o x))) : Gives E.P f (avs.map (gv β)).toArray w o.res x :=
  calls_does hf hb hr hok h fun v hp ⟨p, h1, h2⟩ β' w' hr' hok' => ⟨_, rfl, hr'.below, o.ok h1 h2 hr' hok'⟩

theorem G0 {ρ : Type} {E : Env} {f : FuncId} {fn : Func} (hf : E.P.funcs[f]? = some fn) {c : Code} (hb : fn.body = some c) (hd : Bodied E.P f) (o : Out ρ) (F : ρ)
    (h : DoesL E (flat c) (startSt fn [] []) (EndsAs E fn (Reads o F))) : CallOk E.P f (K0 o.res F) :=
  K0_ok hd fun w => by
    have := gives_ends hf hb (HRel.start w β0) (avs := []) (heap := []) (fun v hv => by cases hv) h
    exact this

theorem G1 {α ρ : Type} {E : Env} {f : FuncId} {fn : Func} (hf : E.P.funcs[f]? = some fn) {c : Code} (hb : fn.body = some c) (hd : Bodied E.P f) (a : Inp α) (o : Out ρ) (F : α → ρ)
    (h : ∀ x, a.fact x → DoesL E (flat c) (startSt fn [a.av 0 x] (a.hes x)) (EndsAs E fn (Reads o (F x)))) : CallOk E.P f (K1 a.arg o.res F) :=
  K1_ok hd fun w v x hv => by
    obtain ⟨β1, r1, e1, k1, _⟩ := a.intro (heap := []) (HRel.start w β0) rfl hv
    simp only [List.nil_append, List.length_nil] at r1 e1 k1
    have := gives_ends hf hb r1 (avs := [a.av 0 x]) (by simpa using k1) (h x (a.known hv))
    simpa only [List.map_cons, List.map_nil, e1] using this

theorem G2 {α γ ρ : Type} {E : Env} {f : FuncId} {fn : Func} (hf : E.P.funcs[f]? = some fn) {c : Code} (hb : fn.body = some c) (hd : Bodied E.P f) (a : Inp α) (b : Inp γ) (o : Out ρ) (F : α → γ → ρ)
    (h : ∀ x y, a.fact x → b.fact y → DoesL E (flat c) (startSt fn [a.av 0 x, b.av (a.hes x).length y] (a.hes x ++ b.hes y)) (EndsAs E fn (Reads o (F x y)))) : CallOk E.P f (K2 a.arg b.arg o.res F) :=
  K2_ok hd fun w v x u y hv hu => by
    obtain ⟨β1, r1, e1, k1, _⟩ := a.intro (heap := []) (HRel.start w β0) rfl hv
    simp only [List.nil_append, List.length_nil] at r1 e1 k1
    obtain ⟨β2, r2, e2, k2, g2⟩ := b.intro r1 rfl hu
    have k1' := k1.grow (grows_append (a.hes x) (b.hes y))
    have e1' : gv β2 (a.av 0 x) = v := by rw [gv_agree g2 k1, e1]
    have := gives_ends hf hb r2 (avs := [a.av 0 x, b.av (a.hes x).length y]) (by
      intro v hv
      simp only [List.mem_cons, List.not_mem_nil, or_false] at hv
      rcases hv with rfl | rfl
      · exact k1'
      · exact k2) (h x y (a.known hv) (b.known hu))
    simpa only [List.map_cons, List.map_nil, e1', e2] using this

theorem G3 {α γ δ ρ : Type} {E : Env} {f : FuncId} {fn : Func} (hf : E.P.funcs[f]? = some fn) {c : Code} (hb : fn.body = some c) (hd : Bodied E.P f) (a : Inp α) (b : Inp γ) (d : Inp δ) (o : Out ρ) (F : α → γ → δ → ρ)
    (h : ∀ x y z, a.fact x → b.fact y → d.fact z → DoesL E (flat c) (startSt fn [a.av 0 x, b.av (a.hes x).length y, d.av (a.hes x ++ b.hes y).length z] (a.hes x ++ b.hes y ++ d.hes z)) (EndsAs E fn (Reads o (F x y z)))) : CallOk E.P f (K3 a.arg b.arg d.arg o.res F) :=
  K3_ok hd fun w v x u y t z hv hu ht => by
    obtain ⟨β1, r1, e1, k1, _⟩ := a.intro (heap := []) (HRel.start w β0) rfl hv
    simp only [List.nil_append, List.length_nil] at r1 e1 k1
    obtain ⟨β2, r2, e2, k2, g2⟩ := b.intro r1 rfl hu
    have k1' := k1.grow (grows_append (a.hes x) (b.hes y))
    have e1' : gv β2 (a.av 0 x) = v := by rw [gv_agree g2 k1, e1]
    obtain ⟨β3, r3, e3, k3, g3⟩ := d.intro r2 rfl ht
    have k1'' := k1'.grow (grows_append _ (d.hes z))
    have k2'' := k2.grow (grows_append _ (d.hes z))
    have e1'' : gv β3 (a.av 0 x) = v := by rw [gv_agree g3 k1', e1']
    have e2'' : gv β3 (b.av (a.hes x).length y) = u := by rw [gv_agree g3 k2, e2]
    have := gives_ends hf hb r3 (avs := [a.av 0 x, b.av (a.hes x).length y, d.av (a.hes x ++ b.hes y).length z]) (by
      intro v hv
      simp only [List.mem_cons, List.not_mem_nil, or_false] at hv
      rcases hv with rfl | rfl | rfl
      · exact k1''
      · exact k2''
      · exact k3) (h x y z (a.known hv) (b.known hu) (d.known ht))
    simpa only [List.map_cons, List.map_nil, e1'', e2'', e3] using this

/-- Some pieces, within a function: a state where they end, or an answer. -/
def iterT {ρ : Type} (E : Env) (o : Out ρ) (n : Nat) (fn : Func) (cs : List Code) (st : St) (keep hs : List Nat) : Tree ((X × St) ⊕ Option (ρ × Pr)) := (execL E n cs st).bind fun q => match q.1 with
  | .ret => match resAll E.P fn.results.toList q.2 with
    | some v => .leaf (.inr (o.rd q.2.heap v))
    | none => .fail
  | x => match shrink keep hs q.2 with
    | some st => .leaf (.inl (x, st))
    | none => .fail

/-- What is to be shown of the ends within a function: those that are no answers, and the answers. -/
def Iter {ρ : Type} (R : X × St → Prop) (x : ρ) : (X × St) ⊕ Option (ρ × Pr) → Prop
  | .inl r => R r
  | .inr a => ∃ p, a = some (x, p) ∧ p.holds

def Within {ρ : Type} (E : Env) (fn : Func) (o : Out ρ) (x : ρ) (R : X × St → Prop) : X × St → Prop := fun r => match r.1 with
  | .ret => EndsAs E fn (Reads o x) r
  | _ => R r

theorem DoesL.iter {ρ : Type} {E : Env} (hE : EnvOk E) {o : Out ρ} (n : Nat) {fn : Func} {cs : List Code} {st : St} (keep hs : List Nat) {x : ρ} {R : X × St → Prop} {T : Tree ((X × St) ⊕ Option (ρ × Pr))}
    (e : iterT E o n fn cs st keep hs = T) (h : T.sat (Iter R x)) : DoesL E cs st (Within E fn o x (Wn R)) := by
  subst e
  refine DoesL.exec hE n ?_
  unfold iterT at h
  rw [Tree.sat_bind] at h
  refine Tree.sat_mono (fun q hq => ?_) h
  obtain ⟨e, s⟩ := q
  have other : (match shrink keep hs s with | some st => Tree.leaf (Sum.inl (e, st)) | none => .fail).sat (Iter (ρ := ρ) R x) → Wn R (e, s) := by
    intro h
    split at h
    · rename_i s' hs'
      exact ⟨s', Wk.shrink hs', h⟩
    · exact h.elim
  cases e with
  | normal => exact other hq
  | exit id => exact other hq
  | goto l => exact other hq
  | ret =>
    simp only [] at hq
    split at hq
    · rename_i v hv
      exact ⟨trivial, v, hv, hq⟩
    · exact hq.elim

theorem Within.mono {ρ : Type} {E : Env} {fn : Func} {o : Out ρ} {x : ρ} {R R' : X × St → Prop} (h : ∀ r, R r → R' r) : ∀ r, Within E fn o x R r → Within E fn o x R' r := by
  rintro ⟨e, s⟩ hr
  cases e with
  | ret => exact hr
  | normal => exact h _ hr
  | exit id => exact h _ hr
  | goto l => exact h _ hr

theorem Within.wn {ρ : Type} {E : Env} {fn : Func} {o : Out ρ} {x : ρ} {R : X × St → Prop} : ∀ r, Within E fn o x (Wn R) r → Wn (Within E fn o x R) r := by
  rintro ⟨e, s⟩ hr
  cases e with
  | ret => exact Wn.of hr
  | normal => exact hr
  | exit id => exact hr
  | goto l => exact hr

theorem DoesL.wn {E : Env} : ∀ {cs : List Code} {st : St} {R : X × St → Prop}, DoesL E cs st (Wn R) → DoesL E cs st R
  | [], st, R, h => by
    obtain ⟨s, h1, s', h2, h3⟩ := h
    exact ⟨s', h1.trans h2, h3⟩
  | c :: cs, st, R, h => Does.wn (Does.mono h fun r hr => by
    obtain ⟨e, s⟩ := r
    cases e with
    | normal => exact Wn.of (DoesL.wn hr)
    | exit id => exact hr
    | goto l => exact hr
    | ret => exact hr)

theorem DoesL.stageE {E : Env} (hE : EnvOk E) (n k : Nat) (keep hs : List Nat) {cs : List Code} {st : St} {R : X × St → Prop} {T : Tree St} (e : stageT E n (cs.take k) st keep hs = T) (h : T.sat fun s => DoesL E (cs.drop k) s R) : DoesL E cs st R :=
  DoesL.stage hE n k keep hs (by rw [e]; exact h)

theorem DoesL.skip {E : Env} (hE : EnvOk E) {cs : List Code} {st : St} {R : X × St → Prop} (h : DoesL E cs st R) : DoesL E (.skip :: cs) st R :=
  Does.run hE (fun _ => none) 1 h

/-- A function whose end is a scope with one label: some pieces up to the label, then rounds. -/
theorem DoesL.scopeFn {ρ : Type} {E : Env} {o : Out ρ} {fn : Func} {cs tail : List Code} {body rest : Code} {l : Nat} (hE : EnvOk E) (he : cs = .scope body :: tail) (hf : findLabel body l = some rest) (n k : Nat)
    (hk : flat rest = .skip :: (flat body).drop k)
    {st : St} (keep hs : List Nat) {ι : Type} (I : ι → St) (m : ι → Nat) (i0 : ι) {x : ρ} {T : Tree St} (e0 : stageT E n ((flat body).take k) st keep hs = T) (h0 : T.sat fun s => s = I i0)
    (h : ∀ i, DoesL E ((flat body).drop k) (I i) (Within E fn o x (Wn fun r => match r.1 with | .goto l' => l' = l ∧ ∃ j, m j < m i ∧ r.2 = I j | _ => False))) :
    DoesL E cs st (EndsAs E fn (Reads o x)) := by
  subst he e0
  show Does E _ _ _
  have each : ∀ i, DoesL E ((flat body).drop k) (I i) fun r => match r.1 with | .goto l' => l' = l ∧ ∃ j, m j < m i ∧ r.2 = I j | _ => ThenX (EndsAs E fn (Reads o x)) (fun s => DoesL E tail s (EndsAs E fn (Reads o x))) r := by
    intro i
    refine DoesL.wn (DoesL.mono (h i) fun r hr => ?_)
    obtain ⟨e, s⟩ := r
    cases e with
    | ret => exact Wn.of hr
    | normal => obtain ⟨s', h1, h2⟩ := hr; exact h2.elim
    | exit id => obtain ⟨s', h1, h2⟩ := hr; exact h2.elim
    | goto l' => exact hr
  refine Does.scope hf I m (m i0) (Does.flat _ (DoesL.stage hE n k keep hs (Tree.sat_mono (fun s hs => ?_) h0))) fun i => Does.flat _ (by rw [hk]; exact DoesL.skip hE (each i))
  subst hs
  exact each i0

end Go.Proofs.Ytfkmooldindfjaa
