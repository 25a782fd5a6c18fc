/- Parts Et, Eu, Ev, Ew, Ex, Ey, Ez, joined. -/
import Derived.Test.YtchlamfdofpolaaEC
/- The executor, part t: slices as arguments. -/
set_option linter.unusedSimpArgs false
set_option linter.unusedVariables false
namespace Go.Proofs.Ytchlamfdofpolaa
open Go.RowKit

/-- A kind of elements, of one cell each. -/
structure El (α : Type) where
  cell : α → Cell
  of : Cell → Option α
  body : List α → Body
  un : Body → Option (List α)
  of_ok : ∀ c x, of c = some x → ∀ β, gc β c = gc β0 (cell x)
  cell_ok : ∀ x β, gc β (cell x) = gc β0 (cell x)
  cell_id : ∀ x, (cell x).idOf = none
  body_ok : ∀ xs, (body xs).cells = xs.map cell
  un_ok : ∀ b xs, un b = some xs → b.cells = xs.map cell

theorem El.cells_len {α : Type} (el : El α) (xs : List α) : (el.body xs).cells.length = xs.length := by rw [el.body_ok, List.length_map]

def elOf (k : EK) : El k.ty where
  cell := k.cell
  of := k.rd
  body := .elts k
  un := fun b => match k, b with
    | .u64, .elts .u64 xs => some xs
    | .u8, .elts .u8 xs => some xs
    | .bool, .elts .bool xs => some xs
    | _, _ => none
  of_ok := fun c x h β => (k.rd_ok h β).trans (k.cell_gc x _ _)
  cell_ok := fun x β => k.cell_gc x _ _
  cell_id := fun x => k.cell_id x
  body_ok := fun xs => rfl
  un_ok := fun b xs h => by
    split at h <;> first | (cases h; rfl) | cases h

abbrev eU64 : El UInt64 := elOf .u64
abbrev eU8 : El UInt8 := elOf .u8
abbrev eBool : El Bool := elOf .bool

/-- All that a call may write has come to be behind a world. -/
def W0.fresh (w0 : W0) (w : World) : Prop := ∀ g, w0.new g → w.heap.size ≤ g
theorem W0.of_fresh (w : World) : (W0.of w).fresh w := fun g h => h.elim id False.elim

/-- No slice is longer. -/
def topLen : Nat := 1125899906842624

/-- A slice of such elements, that lies in a world. -/
def SlIs {α : Type} (el : El α) (w : World) (v : Value) (xs : List α) : Prop :=
  ∃ base cap, v = .slice base xs.length cap ∧ xs.length < topLen ∧ match base with
    | none => xs = [] ∧ cap = 0
    | some a => a.spot = none ∧ xs.length ≤ cap ∧ (xs ≠ [] → a.block < w.heap.size) ∧ ∀ (i : Nat) (x : α), xs[i]? = some x → w.cell? (a.add i) = some (gc β0 (el.cell x))

def slRd {α : Type} (el : El α) (h : Heap) (v : AV) : Option (List α × Pr × List Nat) :=
  match v with
  | .one (.c .nils) => some ([], .t, [])
  | .one (.c (.slc i off len sz rc kn)) => match Nat.beq sz 1, liveOf h i with
    | true, some b => match el.un b.body with
      | some xs => some ((xs.drop off).take len, .p (off + len ≤ xs.length ∧ len < topLen ∧ rc.fits off len 1 b.esz), [i])
      | none => match b.body, kn with
        | .row cs, true => match mapO el.of ((cs.drop off).take len) with
          | some ys => match leB (off + len) cs.length, Nat.blt len topLen, rc.fitsB off len 1 b.esz with
            | true, true, true => some (ys, .t, [i])
            | _, _, _ => none
          | none => none
        | _, _ => none
    | _, _ => none
  | _ => none

theorem RC.fits_of {rc : RC} {off len sz esz : Nat} (h : rc.fitsB off len sz esz = true) : rc.fits off len sz esz := by
  cases rc with
  | kn n => exact Nat.le_of_ble_eq_true h
  | of k =>
    simp only [RC.fitsB, Bool.and_eq_true] at h
    exact ⟨Nat.eq_of_beq_eq_true h.1, Nat.eq_of_beq_eq_true h.2⟩

theorem SlIs.of_view {α : Type} {el : El α} {w0 : W0} {β : Nat → Pl} {h : Heap} {w : World} (r : HRel w0 β h w) {i off len : Nat} {rc : RC} {kn : Bool} {b : Blk} (hb : h i = .live b) {ys : List α}
    (hys : ((b.body.cells.drop off).take len).map (gc β) = ys.map fun x => gc β0 (el.cell x)) (hl : ys.length = len) (hlen : off + len ≤ b.body.cells.length) (ht : len < topLen) (hf : rc.fits off len 1 b.esz) :
    SlIs el w (gv β (.one (.c (.slc i off len 1 rc kn)))) ys := by
  have hbk := r.blk i b hb
  cases ha : (β i).base with
  | none =>
    unfold BlkOk at hbk
    rw [ha] at hbk
    rw [hbk.1] at hlen
    obtain rfl : len = 0 := by simp at hlen; omega
    obtain rfl : ys = [] := List.length_eq_zero_iff.1 hl
    exact ⟨none, 0, by simp [gv, g1, gc, ha], by simp [topLen], rfl, rfl⟩
  | some a =>
    have hbk' := hbk
    unfold BlkOk at hbk
    rw [ha] at hbk
    obtain ⟨q0, q1, q2, q3, q4⟩ := hbk
    refine ⟨some (a.add off), rc.val (β i), by simp [gv, g1, gc, ha, hl], by omega, ?_, ?_, fun hne => ?_, fun j x hx => ?_⟩
    · unfold Addr.add; split <;> simp_all
    · rw [hl]
      cases rc with
      | kn n => exact hf
      | of k =>
        obtain ⟨f1, f2⟩ := hf
        simp only [RC.val]
        have := q3 (by rw [f2]; simp)
        rw [f2] at this
        omega
    · rw [cell_add]
      have hlt : a.block < w.heap.size := hbk'.lt r.below ha (.inr fun e => by
        rw [e] at hlen
        simp at hlen
        exact hne (List.length_eq_zero_iff.1 (by omega)))
      exact hlt
    · refine r.read hb ha off j _ ?_
      have e1 : (ys.map fun x => gc β0 (el.cell x))[j]? = some (gc β0 (el.cell x)) := by rw [List.getElem?_map, hx]; rfl
      rw [← hys, List.getElem?_map, List.getElem?_take] at e1
      rw [List.getElem?_map]
      split at e1
      · exact e1
      · cases e1

def argSl {α : Type} (el : El α) : Arg (List α) where
  rd := slRd el
  is := SlIs el
  ok := fun {w0 β h w v x p rs} e hp hr hok => by
    unfold slRd at e
    split at e
    · cases e
      exact ⟨none, 0, rfl, by simp [topLen], rfl, rfl⟩
    · rename_i i off len sz rc kn
      split at e
      · rename_i b hsz hb
        have hsz := Nat.eq_of_beq_eq_true hsz
        subst hsz
        have hb := liveOf_some hb
        split at e
        · rename_i xs hxs
          cases e
          obtain ⟨h1, h2, h3⟩ := hp
          have hc := el.un_ok _ _ hxs
          refine SlIs.of_view hr hb ?_ (by simp; omega) (by rw [hc]; simpa using h1) h2 h3
          rw [hc, ← List.map_drop, ← List.map_take, List.map_map]
          exact List.map_congr_left fun x _ => el.cell_ok x β
        · split at e
          · rename_i cs hcs
            split at e
            · rename_i ys hys
              split at e
              · rename_i h1 h2 h3
                cases e
                have h1 : off + len ≤ cs.length := Nat.le_of_ble_eq_true h1
                have h2 : len < topLen := Nat.le_of_ble_eq_true h2
                have hlen := (mapO_get hys).1
                refine SlIs.of_view hr hb ?_ (by rw [hlen, List.length_take, List.length_drop]; omega) (by rw [hcs]; exact h1) h2 (RC.fits_of h3)
                · rw [hcs]
                  exact (mapO_map (fun c y e => (el.of_ok c y e β).symm) hys).symm
              · cases e
            · cases e
          · cases e
      · cases e
    · cases e
  near := fun {h h' v x p rs} e H => by
    unfold slRd at e ⊢
    split at e
    · exact e
    · rename_i i off len sz rc kn
      split at e
      · rename_i b hsz hb
        have hi : h i = h' i := H i (by
          split at e
          · cases e; simp
          · split at e
            · split at e
              · split at e
                · cases e; simp
                · cases e
              · cases e
            · cases e)
        have : liveOf h' i = liveOf h i := by unfold liveOf; rw [hi]
        simp only [this, hsz, hb]
        exact e
      · cases e
    · cases e

/-! ## running a function with slices -/

/-- A slice as an argument: a block as long. -/
def inHE {α : Type} (el : El α) (xs : List α) : HE := .live ⟨false, 0, 1, el.body xs, false⟩
def inV {α : Type} (i : Nat) (xs : List α) : AV := .one (.c (.slc i 0 xs.length 1 (.of 0) false))

theorem hpS_snoc (heap : List HE) (x : HE) : hpS (heap ++ [x]) = upd (hpS heap) heap.length x := by
  funext j
  rw [hpS_get]
  by_cases e : j = heap.length
  · subst e; simp [upd_same]
  · rw [upd_ne _ _ e, hpS_get]
    rcases Nat.lt_or_ge j heap.length with h | h
    · rw [List.getElem?_append_left h]
    · rw [List.getElem?_eq_none (by simp; omega), List.getElem?_eq_none h]

theorem hpS_un (heap : List HE) : hpS heap heap.length = .un := by rw [hpS_get, List.getElem?_eq_none (Nat.le_refl _)]; rfl

/-- One more slice. -/
theorem HRel.slice {α : Type} {el : El α} {w0 : W0} {β : Nat → Pl} {heap : List HE} {w : World} (r : HRel w0 β (hpS heap) w) (hw : w0.fresh w) {v : Value} {xs : List α} (h : SlIs el w v xs) :
    ∃ p, HRel w0 (upd β heap.length p) (hpS (heap ++ [inHE el xs])) w ∧ gv (upd β heap.length p) (inV heap.length xs) = v ∧ okv (hpS (heap ++ [inHE el xs])) (inV heap.length xs) := by
  obtain ⟨base, cap, rfl, ht, hb⟩ := h
  have hcells : (el.body xs).cells = xs.map el.cell := el.body_ok xs
  refine ⟨⟨base, cap⟩, ?_, ?_, ?_⟩
  · rw [hpS_snoc]
    refine r.ext (hpS_un heap) _ _ rfl rfl (fun c hc => ?_) ?_
    · simp only [hcells, List.mem_map] at hc
      obtain ⟨x, _, rfl⟩ := hc
      exact okc_none (el.cell_id x)
    · unfold BlkOk
      rw [upd_same]
      cases base with
      | none =>
        obtain ⟨rfl, rfl⟩ := hb
        exact ⟨by rw [hcells]; rfl, rfl, by simp⟩
      | some a =>
        obtain ⟨b0, b1, b2, b3⟩ := hb
        refine ⟨b0, fun i c hc => ?_, fun _ hne => ?_, fun _ => by simp only [hcells]; simpa using b1, fun e => by cases e⟩
        · simp only [hcells, List.getElem?_map] at hc
          cases hx : xs[i]? with
          | none => rw [hx] at hc; cases hc
          | some x =>
            rw [hx] at hc
            cases hc
            rw [b3 i x hx]
            exact congrArg some (el.cell_ok x _).symm
        · simp only [hcells] at hne
          have := b2 (by rintro rfl; exact hne rfl)
          intro hnew
          have := hw _ hnew
          omega
  · simp only [inV, gv, g1, gc, upd_same]
    cases base with
    | none =>
      obtain ⟨rfl, rfl⟩ := hb
      rfl
    | some a =>
      have b0 := hb.1
      simp only [RC.val, Nat.sub_zero]
      have : a.add 0 = a := by unfold Addr.add; split <;> simp_all
      rw [this]
  · intro i hi
    cases hi
    rw [hpS_snoc, upd_same]
    simp [inHE]

end Go.Proofs.Ytchlamfdofpolaa

/- The executor, part u: how arguments are given to a run, and answers are read off it. -/
set_option linter.unusedSimpArgs false
set_option linter.unusedVariables false
namespace Go.Proofs.Ytchlamfdofpolaa
open Go.RowKit

theorem gv_agree {β β' : Nat → Pl} {heap : List HE} (h : ∀ i, i < heap.length → β' i = β i) {v : AV} (hv : okv (hpS heap) v) : gv β' v = gv β v := by
  have hc : ∀ c, okc (hpS heap) c → gc β' c = gc β c := fun c hc => gc_congr fun i hi => h i (hpS_lt (hc i hi))
  have h1 : ∀ u, ok1 (hpS heap) u → g1 β' u = g1 β u := by
    intro u hu
    cases u with
    | c x => exact hc x hu
    | agg xs => simp only [g1]; congr 2; exact List.map_congr_left fun c hx => hc c (hu c hx)
  cases v with
  | one u => exact h1 u hv
  | tup us => simp only [gv]; congr 2; exact List.map_congr_left fun c hx => h1 c (hv c hx)

theorem grows_append (heap more : List HE) : Grows (hpS heap) (hpS (heap ++ more)) := fun i hi => by
  have := hpS_lt hi
  rw [hpS_get] at hi ⊢
  rw [List.getElem?_append_left this]
  exact hi

/-- How an argument is given to a run. -/
structure Inp (α : Type) where
  arg : Arg α
  av : Nat → α → AV
  hes : α → List HE
  fact : α → Prop
  known : ∀ {w v x}, arg.is w v x → fact x
  intro : ∀ {w0 β} {heap : List HE} {w v x}, HRel w0 β (hpS heap) w → w0.fresh w → arg.is w v x →
    ∃ β', HRel w0 β' (hpS (heap ++ hes x)) w ∧ gv β' (av heap.length x) = v ∧ okv (hpS (heap ++ hes x)) (av heap.length x) ∧ ∀ i, i < heap.length → β' i = β i

def Kd.inp {α : Type} (k : Kd α) : Inp α where
  arg := k.arg
  av := fun _ x => .one (k.av x)
  hes := fun _ => []
  fact := fun _ => True
  known := fun _ => trivial
  intro := fun {w0 β heap w v x} hr _ hv => ⟨β, by rw [List.append_nil]; exact hr, by simp only [gv, k.av_ok]; exact hv.symm, k.av_id x _, fun _ _ => rfl⟩

def inpSl {α : Type} (el : El α) : Inp (List α) where
  arg := argSl el
  av := fun n x => inV n x
  hes := fun x => [inHE el x]
  fact := fun x => x.length < topLen
  known := fun {w v x} h => by obtain ⟨_, _, _, h, _⟩ := h; exact h
  intro := fun {w0 β heap w v x} hr hw hv => by
    obtain ⟨p, h1, h2, h3⟩ := hr.slice hw hv
    exact ⟨_, h1, h2, h3, fun i hi => upd_ne _ _ (by omega)⟩

/-- How answers are read off a run. -/
structure Out (ρ : Type) where
  res : Res ρ
  rd : List HE → AV → Option (ρ × Pr)
  ok : ∀ {w β hp w' v x p}, rd hp v = some (x, p) → p.holds → HRel (.of w) β (hpS hp) w' → okv (hpS hp) v → res.is w w' (gv β v) x

def Rs.out {ρ : Type} (r : Rs ρ) : Out ρ where
  res := r.res
  rd := fun _ v => match r.rd v with | some x => some (x, .t) | none => none
  ok := fun {w β hp w' v x p} h _ _ _ => by
    split at h
    · rename_i y hy; cases h; exact r.rd_ok _ _ hy β
    · cases h

def Reads {ρ : Type} (o : Out ρ) (x : ρ) : AV → List HE → Prop := fun v hp => ∃ p, o.rd hp v = some (x, p) ∧ p.holds

/-- The last pieces of a function, and what it answers. -/
def endT {ρ : Type} (E : Env) (o : Out ρ) (n : Nat) (fn : Func) (cs : List Code) (st : St) : Tree (Option (ρ × Pr)) := (execL E n cs st).bind fun q => match q.1 with
  | .normal | .ret => match resAll E.P fn.results.toList q.2 with
    | some v => .leaf (o.rd q.2.heap v)
    | none => .fail
  | _ => .fail

theorem DoesL.ends {ρ : Type} {E : Env} (hE : EnvOk E) {o : Out ρ} (n : Nat) {fn : Func} {cs : List Code} {st : St} {x : ρ} {T : Tree (Option (ρ × Pr))} (e : endT E o n fn cs st = T) (h : T.sat fun q => ∃ p, q = some (x, p) ∧ p.holds) :
    DoesL E cs st (EndsAs E fn (Reads o x)) := by
  subst e
  refine DoesL.exec hE n ?_
  unfold endT at h
  rw [Tree.sat_bind] at h
  refine Tree.sat_mono (fun q hq => ?_) h
  obtain ⟨e, s⟩ := q
  have fin : (match resAll E.P fn.results.toList s with | some v => Tree.leaf (o.rd s.heap v) | none => .fail).sat (fun q => ∃ p, q = some (x, p) ∧ p.holds) → ∃ v, resAll E.P fn.results.toList s = some v ∧ Reads o x v s.heap := by
    intro h
    split at h
    · rename_i v hv
      exact ⟨v, hv, h⟩
    · exact h.elim
  cases e with
  | normal => exact ⟨trivial, fin hq⟩
  | ret => exact ⟨trivial, fin hq⟩
  | exit id => exact hq.elim
  | goto l => exact hq.elim

theorem gives_ends {ρ : Type} {E : Env} {f : FuncId} {fn : Func} (hf : E.P.funcs[f]? = some fn) {c : Code} (hb : fn.body = some c) {avs : List AV} {heap : List HE} {β : Nat → Pl} {w : World} (hr : HRel (.of w) β (hpS heap) w)
    (hok : ∀ v ∈ avs, okv (hpS heap) v) {o : Out ρ} {x : ρ} (h : DoesL E (flat c) (startSt fn avs heap) (EndsAs E fn (Reads o x))) : Gives E.P f (avs.map (gv β)).toArray w o.res x :=
  calls_does hf hb hr hok h fun v hp ⟨p, h1, h2⟩ β' w' hr' hok' => ⟨_, rfl, hr'.below.below, o.ok h1 h2 hr' hok'⟩

theorem G0 {ρ : Type} {E : Env} {f : FuncId} {fn : Func} (hf : E.P.funcs[f]? = some fn) {c : Code} (hb : fn.body = some c) (hd : Bodied E.P f) (o : Out ρ) (F : ρ)
    (h : DoesL E (flat c) (startSt fn [] []) (EndsAs E fn (Reads o F))) : CallOk E.P f (K0 o.res F) :=
  K0_ok hd fun w => by
    have := gives_ends hf hb (HRel.start w β0) (avs := []) (heap := []) (fun v hv => by cases hv) h
    exact this

theorem G1 {α ρ : Type} {E : Env} {f : FuncId} {fn : Func} (hf : E.P.funcs[f]? = some fn) {c : Code} (hb : fn.body = some c) (hd : Bodied E.P f) (a : Inp α) (o : Out ρ) (F : α → ρ)
    (h : ∀ x, a.fact x → DoesL E (flat c) (startSt fn [a.av 0 x] (a.hes x)) (EndsAs E fn (Reads o (F x)))) : CallOk E.P f (K1 a.arg o.res F) :=
  K1_ok hd fun w v x hv => by
    obtain ⟨β1, r1, e1, k1, _⟩ := a.intro (heap := []) (HRel.start w β0) (W0.of_fresh w) hv
    simp only [List.nil_append, List.length_nil] at r1 e1 k1
    have := gives_ends hf hb r1 (avs := [a.av 0 x]) (by simpa using k1) (h x (a.known hv))
    simpa only [List.map_cons, List.map_nil, e1] using this

theorem G2 {α γ ρ : Type} {E : Env} {f : FuncId} {fn : Func} (hf : E.P.funcs[f]? = some fn) {c : Code} (hb : fn.body = some c) (hd : Bodied E.P f) (a : Inp α) (b : Inp γ) (o : Out ρ) (F : α → γ → ρ)
    (h : ∀ x y, a.fact x → b.fact y → DoesL E (flat c) (startSt fn [a.av 0 x, b.av (a.hes x).length y] (a.hes x ++ b.hes y)) (EndsAs E fn (Reads o (F x y)))) : CallOk E.P f (K2 a.arg b.arg o.res F) :=
  K2_ok hd fun w v x u y hv hu => by
    obtain ⟨β1, r1, e1, k1, _⟩ := a.intro (heap := []) (HRel.start w β0) (W0.of_fresh w) hv
    simp only [List.nil_append, List.length_nil] at r1 e1 k1
    obtain ⟨β2, r2, e2, k2, g2⟩ := b.intro r1 (W0.of_fresh w) hu
    have k1' := k1.grow (grows_append (a.hes x) (b.hes y))
    have e1' : gv β2 (a.av 0 x) = v := by rw [gv_agree g2 k1, e1]
    have := gives_ends hf hb r2 (avs := [a.av 0 x, b.av (a.hes x).length y]) (by
      intro v hv
      simp only [List.mem_cons, List.not_mem_nil, or_false] at hv
      rcases hv with rfl | rfl
      · exact k1'
      · exact k2) (h x y (a.known hv) (b.known hu))
    simpa only [List.map_cons, List.map_nil, e1', e2] using this

theorem G3 {α γ δ ρ : Type} {E : Env} {f : FuncId} {fn : Func} (hf : E.P.funcs[f]? = some fn) {c : Code} (hb : fn.body = some c) (hd : Bodied E.P f) (a : Inp α) (b : Inp γ) (d : Inp δ) (o : Out ρ) (F : α → γ → δ → ρ)
    (h : ∀ x y z, a.fact x → b.fact y → d.fact z → DoesL E (flat c) (startSt fn [a.av 0 x, b.av (a.hes x).length y, d.av (a.hes x ++ b.hes y).length z] (a.hes x ++ b.hes y ++ d.hes z)) (EndsAs E fn (Reads o (F x y z)))) : CallOk E.P f (K3 a.arg b.arg d.arg o.res F) :=
  K3_ok hd fun w v x u y t z hv hu ht => by
    obtain ⟨β1, r1, e1, k1, _⟩ := a.intro (heap := []) (HRel.start w β0) (W0.of_fresh w) hv
    simp only [List.nil_append, List.length_nil] at r1 e1 k1
    obtain ⟨β2, r2, e2, k2, g2⟩ := b.intro r1 (W0.of_fresh w) hu
    have k1' := k1.grow (grows_append (a.hes x) (b.hes y))
    have e1' : gv β2 (a.av 0 x) = v := by rw [gv_agree g2 k1, e1]
    obtain ⟨β3, r3, e3, k3, g3⟩ := d.intro r2 (W0.of_fresh w) ht
    have k1'' := k1'.grow (grows_append _ (d.hes z))
    have k2'' := k2.grow (grows_append _ (d.hes z))
    have e1'' : gv β3 (a.av 0 x) = v := by rw [gv_agree g3 k1', e1']
    have e2'' : gv β3 (b.av (a.hes x).length y) = u := by rw [gv_agree g3 k2, e2]
    have := gives_ends hf hb r3 (avs := [a.av 0 x, b.av (a.hes x).length y, d.av (a.hes x ++ b.hes y).length z]) (by
      intro v hv
      simp only [List.mem_cons, List.not_mem_nil, or_false] at hv
      rcases hv with rfl | rfl | rfl
      · exact k1''
      · exact k2''
      · exact k3) (h x y z (a.known hv) (b.known hu) (d.known ht))
    simpa only [List.map_cons, List.map_nil, e1'', e2'', e3] using this

/-- Some pieces, within a function: a state where they end, or an answer. -/
def iterT {ρ : Type} (E : Env) (o : Out ρ) (n : Nat) (fn : Func) (cs : List Code) (st : St) (keep hs : List Nat) : Tree ((X × St) ⊕ Option (ρ × Pr)) := (execL E n cs st).bind fun q => match q.1 with
  | .ret => match resAll E.P fn.results.toList q.2 with
    | some v => .leaf (.inr (o.rd q.2.heap v))
    | none => .fail
  | x => match shrink keep hs q.2 with
    | some st => .leaf (.inl (x, st))
    | none => .fail

/-- What is to be shown of the ends within a function: those that are no answers, and the answers. -/
def Iter {ρ : Type} (R : X × St → Prop) (x : ρ) : (X × St) ⊕ Option (ρ × Pr) → Prop
  | .inl r => R r
  | .inr a => ∃ p, a = some (x, p) ∧ p.holds

def Within {ρ : Type} (E : Env) (fn : Func) (o : Out ρ) (x : ρ) (R : X × St → Prop) : X × St → Prop := fun r => match r.1 with
  | .ret => EndsAs E fn (Reads o x) r
  | _ => R r

theorem DoesL.iter {ρ : Type} {E : Env} (hE : EnvOk E) {o : Out ρ} (n : Nat) {fn : Func} {cs : List Code} {st : St} (keep hs : List Nat) {x : ρ} {R : X × St → Prop} {T : Tree ((X × St) ⊕ Option (ρ × Pr))}
    (e : iterT E o n fn cs st keep hs = T) (h : T.sat (Iter R x)) : DoesL E cs st (Within E fn o x (Wn R)) := by
  subst e
  refine DoesL.exec hE n ?_
  unfold iterT at h
  rw [Tree.sat_bind] at h
  refine Tree.sat_mono (fun q hq => ?_) h
  obtain ⟨e, s⟩ := q
  have other : (match shrink keep hs s with | some st => Tree.leaf (Sum.inl (e, st)) | none => .fail).sat (Iter (ρ := ρ) R x) → Wn R (e, s) := by
    intro h
    split at h
    · rename_i s' hs'
      exact ⟨s', Wk.shrink hs', h⟩
    · exact h.elim
  cases e with
  | normal => exact other hq
  | exit id => exact other hq
  | goto l => exact other hq
  | ret =>
    simp only [] at hq
    split at hq
    · rename_i v hv
      exact ⟨trivial, v, hv, hq⟩
    · exact hq.elim

theorem Within.mono {ρ : Type} {E : Env} {fn : Func} {o : Out ρ} {x : ρ} {R R' : X × St → Prop} (h : ∀ r, R r → R' r) : ∀ r, Within E fn o x R r → Within E fn o x R' r := by
  rintro ⟨e, s⟩ hr
  cases e with
  | ret => exact hr
  | normal => exact h _ hr
  | exit id => exact h _ hr
  | goto l => exact h _ hr

theorem Within.wn {ρ : Type} {E : Env} {fn : Func} {o : Out ρ} {x : ρ} {R : X × St → Prop} : ∀ r, Within E fn o x (Wn R) r → Wn (Within E fn o x R) r := by
  rintro ⟨e, s⟩ hr
  cases e with
  | ret => exact Wn.of hr
  | normal => exact hr
  | exit id => exact hr
  | goto l => exact hr

theorem DoesL.wn {E : Env} : ∀ {cs : List Code} {st : St} {R : X × St → Prop}, DoesL E cs st (Wn R) → DoesL E cs st R
  | [], st, R, h => by
    obtain ⟨s, h1, s', h2, h3⟩ := h
    exact ⟨s', h1.trans h2, h3⟩
  | c :: cs, st, R, h => Does.wn (Does.mono h fun r hr => by
    obtain ⟨e, s⟩ := r
    cases e with
    | normal => exact Wn.of (DoesL.wn hr)
    | exit id => exact hr
    | goto l => exact hr
    | ret => exact hr)

theorem DoesL.stageE {E : Env} (hE : EnvOk E) (n k : Nat) (keep hs : List Nat) {cs : List Code} {st : St} {R : X × St → Prop} {T : Tree St} (e : stageT E n (cs.take k) st keep hs = T) (h : T.sat fun s => DoesL E (cs.drop k) s R) : DoesL E cs st R :=
  DoesL.stage hE n k keep hs (by rw [e]; exact h)

theorem DoesL.skip {E : Env} (hE : EnvOk E) {cs : List Code} {st : St} {R : X × St → Prop} (h : DoesL E cs st R) : DoesL E (.skip :: cs) st R :=
  Does.run hE (fun _ => none) 1 h

/-- A function whose end is a scope with one label: some pieces up to the label, then rounds. -/
theorem DoesL.scopeFn {ρ : Type} {E : Env} {o : Out ρ} {fn : Func} {cs tail : List Code} {body rest : Code} {l : Nat} (hE : EnvOk E) (he : cs = .scope body :: tail) (hf : findLabel body l = some rest) (n k : Nat)
    (hk : flat rest = .skip :: (flat body).drop k)
    {st : St} (keep hs : List Nat) {ι : Type} (I : ι → St) (m : ι → Nat) (i0 : ι) {x : ρ} {T : Tree St} (e0 : stageT E n ((flat body).take k) st keep hs = T) (h0 : T.sat fun s => s = I i0)
    (h : ∀ i, DoesL E ((flat body).drop k) (I i) (Within E fn o x (Wn fun r => match r.1 with | .goto l' => l' = l ∧ ∃ j, m j < m i ∧ r.2 = I j | _ => False))) :
    DoesL E cs st (EndsAs E fn (Reads o x)) := by
  subst he e0
  show Does E _ _ _
  have each : ∀ i, DoesL E ((flat body).drop k) (I i) fun r => match r.1 with | .goto l' => l' = l ∧ ∃ j, m j < m i ∧ r.2 = I j | _ => ThenX (EndsAs E fn (Reads o x)) (fun s => DoesL E tail s (EndsAs E fn (Reads o x))) r := by
    intro i
    refine DoesL.wn (DoesL.mono (h i) fun r hr => ?_)
    obtain ⟨e, s⟩ := r
    cases e with
    | ret => exact Wn.of hr
    | normal => obtain ⟨s', h1, h2⟩ := hr; exact h2.elim
    | exit id => obtain ⟨s', h1, h2⟩ := hr; exact h2.elim
    | goto l' => exact hr
  refine Does.scope hf I m (m i0) (Does.flat _ (DoesL.stage hE n k keep hs (Tree.sat_mono (fun s hs => ?_) h0))) fun i => Does.flat _ (by rw [hk]; exact DoesL.skip hE (each i))
  subst hs
  exact each i0

end Go.Proofs.Ytchlamfdofpolaa

/- The executor, part v: new slices as answers. -/
set_option linter.unusedSimpArgs false
set_option linter.unusedVariables false
namespace Go.Proofs.Ytchlamfdofpolaa
open Go.RowKit

theorem add_none {a : Addr} (h : a.spot = none) : a.add 0 = a := by
  unfold Addr.add
  split <;> simp_all

/-- A slice that a call has made, of such cells. -/
def NewSl (ty : TypeId) (w w' : World) (v : Value) (vs : List Value) : Prop :=
  ∃ base cap, v = .slice base vs.length cap ∧ match base with
    | none => vs = [] ∧ cap = 0
    | some a => a.off = 0 ∧ a.spot = none ∧ w.heap.size ≤ a.block ∧ ∃ cur, w'.heap[a.block]? = some (.cells cur ty (0, 0)) ∧ cur.size = cap ∧ cap ≤ maxLen ∧ vs.length ≤ cap ∧
        ∀ (i : Nat) (u : Value), vs[i]? = some u → cur[i]? = some u

theorem NewSl.eff {ty : TypeId} {w w' : World} {v : Value} {cs : List Cell} (hf : NewSl ty w w' v (cs.map (gc β0))) {w0 : W0} {β : Nat → Pl} {h : Heap} (hr : HRel w0 β h w) {id : Nat} (hid : h id = .un) (hb : Below w.heap.size w w')
    {body : Body} (hbody : body.cells = cs) (hcs : ∀ c ∈ cs, c.idOf = none) {n : Nat} (hn : n = cs.length) (kn : Bool) :
    EffOk w0 β h id (.one (.c (.slc id 0 n 1 (.of 0) kn))) (newL id (some ⟨true, ty, 1, body, false⟩)) v w' := by
  obtain ⟨base, cap, rfl, hbase⟩ := hf
  have hok : okv (updL h (newL id (some ⟨true, ty, 1, body, false⟩))) (.one (.c (.slc id 0 n 1 (.of 0) kn))) := by
    intro i hi
    cases hi
    simp [newL, updL, upd_same]
  subst hn
  cases base with
  | none =>
    obtain ⟨h0, rfl⟩ := hbase
    have h0 : cs = [] := by simpa using h0
    subst h0
    exact ⟨⟨none, 0⟩, by simp [gv, g1, gc, upd_same], hr.newNil hid hb ty 1 (by simp) body hbody, hok⟩
  | some a =>
    obtain ⟨h1, h2, h3, cur, h4, h5, h6, h7, h8⟩ := hbase
    have ha : a = ⟨a.block, 0, none⟩ := by cases a; simp_all
    refine ⟨⟨some ⟨a.block, 0, none⟩, cap⟩, ?_, ?_, hok⟩
    · simp only [gv, g1, gc, upd_same, RC.val, Nat.sub_zero, List.length_map]
      rw [← ha, add_none h2]
    · refine hr.new hid hb a.block cap ty 1 body cur h3 h4 (fun i c hc => ?_) (by rw [hbody, h5]; simpa using h7) (fun _ => ⟨by omega, h6⟩) (fun e => by cases e) (fun c hc => okc_none (hcs c (by rw [← hbody]; exact hc)))
      rw [hbody] at hc
      rw [h8 i (gc β0 c) (by rw [List.getElem?_map, hc]; rfl)]
      exact congrArg some (gc_congr fun j hj => by rw [hcs c (List.mem_of_getElem? hc)] at hj; cases hj)

/-- A slice that lies in a block of the call's own, from its start on. -/
theorem NewSl.of_own {w w' : World} {β : Nat → Pl} {hp : Heap} (hr : HRel (.of w) β hp w') {i : Nat} {ty : TypeId} {esz : Nat} {body : Body} {pin : Bool} (hi : hp i = .live ⟨true, ty, esz, body, pin⟩) {len : Nat} {rc : RC} {kn : Bool}
    (hlen : len ≤ body.cells.length) (hk : (esz = 1 ∧ rc = .of 0) ∨ (esz = 0 ∧ ∃ n, rc = .kn n ∧ n = body.cells.length ∧ n ≤ maxLen)) :
    NewSl ty w w' (gv β (.one (.c (.slc i 0 len 1 rc kn)))) ((body.cells.take len).map (gc β)) := by
  have hb := hr.blk i _ hi
  unfold BlkOk at hb
  have hl : ((body.cells.take len).map (gc β)).length = len := by rw [List.length_map, List.length_take]; omega
  cases ha : (β i).base with
  | none =>
    rw [ha] at hb
    have h0 : body.cells = [] := hb.1
    rw [h0] at hlen
    obtain rfl : len = 0 := by simpa using hlen
    exact ⟨none, 0, by simp [gv, g1, gc, ha], by simp, rfl⟩
  | some a =>
    rw [ha] at hb
    obtain ⟨q0, q1, q2, q3, q4⟩ := hb
    obtain ⟨r1, r2, cur, r3, r4, r5, r6⟩ := q4 rfl
    simp only [] at r3 r4 r5 r6
    have hadd : a.add 0 = a := by unfold Addr.add; split <;> simp_all
    have cap : rc.val (β i) = cur.size ∧ cur.size ≤ maxLen := by
      rcases hk with ⟨rfl, rfl⟩ | ⟨rfl, n, rfl, h1, h2⟩
      · obtain ⟨s1, s2⟩ := r5 (by simp)
        simp only [RC.val]
        omega
      · have := r6 rfl
        simp only [RC.val] at *
        omega
    refine ⟨some a, cur.size, by simp only [gv, g1, gc, ha, hadd, hl, cap.1], r2, q0, r1.elim id False.elim, cur, r3, rfl, cap.2, by rw [hl]; exact Nat.le_trans hlen r4, fun j u hu => ?_⟩
    have hjl : j < len := by
      rcases Nat.lt_or_ge j len with h | h
      · exact h
      · rw [List.getElem?_eq_none (by rw [hl]; exact h)] at hu; cases hu
    rw [List.getElem?_map, List.getElem?_take, if_pos hjl] at hu
    cases hc : body.cells[j]? with
    | none => rw [hc] at hu; cases hu
    | some c =>
      rw [hc] at hu
      cases hu
      have := q1 j c hc
      unfold World.cell? at this
      rw [cell_add, r3] at this
      have hsp : (a.add j).spot = none := by unfold Addr.add; split <;> simp_all
      have hoff : (a.add j).off = j := by unfold Addr.add; split <;> simp_all
      simp only [hsp, Option.isSome_none, Bool.false_eq_true, if_false, hoff] at this
      exact this

/-- A slice of so many cells of a kind, as an answer. -/
def resSlR (α : Type) [Row α] (ty : TypeId) (n : Nat) (hn : ∀ x : α, n = (Row.cs x).length) : Res α where
  wr := fun id x => .one (.c (.slc id 0 n 1 (.of 0) true))
  new := fun x => some ⟨true, ty, 1, .row (Row.cs x), false⟩
  is := fun w w' v x => NewSl ty w w' v ((Row.cs x).map (gc β0))
  ok := fun {w0 β h w w' id v x} hr hid hb hf => hf.eff hr hid hb rfl (Row.cs_id x) (hn x) true

/-- How it is read off a run. -/
def outSlR (α : Type) [Row α] (ty : TypeId) (n : Nat) (hn : ∀ x : α, n = (Row.cs x).length) : Out α where
  res := resSlR α ty n hn
  rd := fun hp v => match v with
    | .one (.c (.slc i 0 len 1 rc _)) => match hpS hp i with
      | .live ⟨true, ty', esz, .row cs, pin⟩ => match Row.rd (α := α) (cs.take len), Nat.beq ty' ty, leB len cs.length, esz, rc with
        | some x, true, true, 1, .of 0 => some (x, .t)
        | some x, true, true, 0, .kn m => match Nat.beq m cs.length && leB m maxLen with
          | true => some (x, .t)
          | false => none
        | _, _, _, _, _ => none
      | _ => none
    | _ => none
  ok := fun {w β hp w' v x p} e hp' hr hok => by
    split at e
    · rename_i i len rc kn
      split at e
      · rename_i ty' esz cs pin hi
        split at e
        · rename_i y hx ht hl
          cases e
          have ht := Nat.eq_of_beq_eq_true ht
          subst ht
          have := NewSl.of_own (kn := kn) hr hi (Nat.le_of_ble_eq_true hl) (.inl ⟨rfl, rfl⟩)
          simp only [Body.cells, Row.rd_ok hx β] at this
          exact this
        · rename_i y m hx ht hl
          split at e
          · rename_i hm
            cases e
            have ht := Nat.eq_of_beq_eq_true ht
            subst ht
            simp only [Bool.and_eq_true] at hm
            have := NewSl.of_own (kn := kn) hr hi (Nat.le_of_ble_eq_true hl) (.inr ⟨rfl, m, rfl, Nat.eq_of_beq_eq_true hm.1, Nat.le_of_ble_eq_true hm.2⟩)
            simp only [Body.cells, Row.rd_ok hx β] at this
            exact this
          · cases e
        · cases e
      · cases e
    · cases e

/-- A slice of any length, as an answer. -/
def resSl {α : Type} (el : El α) (ty : TypeId) : Res (List α) where
  wr := fun id xs => .one (.c (.slc id 0 xs.length 1 (.of 0) false))
  new := fun xs => some ⟨true, ty, 1, el.body xs, false⟩
  is := fun w w' v xs => NewSl ty w w' v (xs.map fun x => gc β0 (el.cell x))
  ok := fun {w0 β h w w' id v x} hr hid hb hf => by
    refine NewSl.eff (cs := x.map el.cell) (by rw [List.map_map]; exact hf) hr hid hb (el.body_ok x) (fun c hc => ?_) (by simp) false
    simp only [List.mem_map] at hc
    obtain ⟨y, _, rfl⟩ := hc
    exact el.cell_id y

/-- How it is read off a run. -/
def outSl {α : Type} (el : El α) (ty : TypeId) : Out (List α) where
  res := resSl el ty
  rd := fun hp v => match v with
    | .one (.c .nils) => some ([], .t)
    | .one (.c (.slc i 0 len 1 (.of 0) kn)) => match hpS hp i with
      | .live ⟨true, ty', 1, body, pin⟩ => match Nat.beq ty' ty with
        | true => match el.un body with
          | some xs => some (xs.take len, .p (len ≤ xs.length))
          | none => match body, kn with
            | .row cs, true => match mapO el.of (cs.take len), leB len cs.length with
              | some ys, true => some (ys, .t)
              | _, _ => none
            | _, _ => none
        | false => none
      | _ => none
    | _ => none
  ok := fun {w β hp w' v x p} e hp' hr hok => by
    split at e
    · cases e
      exact ⟨none, 0, rfl, rfl, rfl⟩
    · rename_i i len kn
      split at e
      · rename_i ty' body pin hi
        split at e
        · rename_i ht
          have ht := Nat.eq_of_beq_eq_true ht
          subst ht
          split at e
          · rename_i xs hxs
            cases e
            have hc := el.un_ok _ _ hxs
            have := NewSl.of_own (kn := kn) hr hi (len := len) (by rw [hc, List.length_map]; exact hp') (.inl ⟨rfl, rfl⟩)
            rw [hc] at this
            have e2 : ((List.map el.cell xs).take len).map (gc β) = (xs.take len).map fun x => gc β0 (el.cell x) := by
              rw [← List.map_take, List.map_map]
              exact List.map_congr_left fun x _ => el.cell_ok x β
            rw [e2] at this
            exact this
          · split at e
            · rename_i cs hno
              split at e
              · rename_i ys hys hl
                cases e
                have := NewSl.of_own (kn := true) hr hi (len := len) (Nat.le_of_ble_eq_true hl) (.inl ⟨rfl, rfl⟩)
                have e2 : (cs.take len).map (gc β) = x.map fun x => gc β0 (el.cell x) := (mapO_map (fun c y e => (el.of_ok c y e β).symm) hys).symm
                simp only [Body.cells, e2] at this
                exact this
              · cases e
            · cases e
        · cases e
      · cases e
    · cases e

end Go.Proofs.Ytchlamfdofpolaa

/- The executor, part w: slices of so many cells as arguments. -/
set_option linter.unusedSimpArgs false
set_option linter.unusedVariables false
namespace Go.Proofs.Ytchlamfdofpolaa
open Go.RowKit

/-- A slice of such values, that lies in a world. -/
def SlVals (w : World) (v : Value) (vs : List Value) : Prop :=
  ∃ base cap, v = .slice base vs.length cap ∧ vs.length < topLen ∧ match base with
    | none => vs = [] ∧ cap = 0
    | some a => a.spot = none ∧ vs.length ≤ cap ∧ (vs ≠ [] → a.block < w.heap.size) ∧ ∀ (i : Nat) (u : Value), vs[i]? = some u → w.cell? (a.add i) = some u

theorem SlVals.of_view {w0 : W0} {β : Nat → Pl} {h : Heap} {w : World} (r : HRel w0 β h w) {i off len : Nat} {rc : RC} {kn : Bool} {b : Blk} (hb : h i = .live b)
    (hlen : off + len ≤ b.body.cells.length) (ht : len < topLen) (hf : rc.fits off len 1 b.esz) : SlVals w (gv β (.one (.c (.slc i off len 1 rc kn)))) (((b.body.cells.drop off).take len).map (gc β)) := by
  have hbk := r.blk i b hb
  have hl : (((b.body.cells.drop off).take len).map (gc β)).length = len := by rw [List.length_map, List.length_take, List.length_drop]; omega
  cases ha : (β i).base with
  | none =>
    unfold BlkOk at hbk
    rw [ha] at hbk
    rw [hbk.1] at hlen
    obtain rfl : len = 0 := by simp at hlen; omega
    exact ⟨none, 0, by simp [gv, g1, gc, ha], by simp [topLen], by simp, rfl⟩
  | some a =>
    have hbk' := hbk
    unfold BlkOk at hbk
    rw [ha] at hbk
    obtain ⟨q0, q1, q2, q3, q4⟩ := hbk
    refine ⟨some (a.add off), rc.val (β i), by simp only [gv, g1, gc, ha, hl], by omega, ?_, ?_, fun hne => ?_, fun j u hu => ?_⟩
    · unfold Addr.add; split <;> simp_all
    · rw [hl]
      cases rc with
      | kn n => exact hf
      | of k =>
        obtain ⟨f1, f2⟩ := hf
        simp only [RC.val]
        have := q3 (by rw [f2]; simp)
        rw [f2] at this
        omega
    · rw [cell_add]
      exact hbk'.lt r.below ha (.inr fun e => by
        rw [e] at hlen
        simp at hlen
        exact hne (List.length_eq_zero_iff.1 (by rw [hl]; omega)))
    · refine r.read hb ha off j u ?_
      rw [List.getElem?_map, List.getElem?_take] at hu
      rw [List.getElem?_map]
      split at hu
      · exact hu
      · cases hu

theorem SlVals.named {w0 : W0} {β : Nat → Pl} {heap : List HE} {w : World} (r : HRel w0 β (hpS heap) w) (hw : w0.fresh w) {v : Value} {cs : List Cell} (hcs : ∀ c ∈ cs, c.idOf = none)
    (h : SlVals w v (cs.map (gc β0))) {n : Nat} (hn : n = cs.length) (kn : Bool) :
    ∃ p, HRel w0 (upd β heap.length p) (hpS (heap ++ [.live ⟨false, 0, 1, .row cs, false⟩])) w ∧ gv (upd β heap.length p) (.one (.c (.slc heap.length 0 n 1 (.of 0) kn))) = v ∧
      okv (hpS (heap ++ [.live ⟨false, 0, 1, .row cs, false⟩])) (.one (.c (.slc heap.length 0 n 1 (.of 0) kn))) := by
  obtain ⟨base, cap, rfl, ht, hb⟩ := h
  subst hn
  refine ⟨⟨base, cap⟩, ?_, ?_, ?_⟩
  · rw [hpS_snoc]
    refine r.ext (hpS_un heap) _ _ rfl rfl (fun c hc => okc_none (hcs c hc)) ?_
    unfold BlkOk
    rw [upd_same]
    cases base with
    | none =>
      obtain ⟨h0, rfl⟩ := hb
      have h0 : cs = [] := by simpa using h0
      subst h0
      exact ⟨rfl, rfl, by simp⟩
    | some a =>
      obtain ⟨b0, b1, b2, b3⟩ := hb
      refine ⟨b0, fun i c hc => ?_, fun _ hne => ?_, fun _ => by simp only [Body.cells]; simpa using b1, fun e => by cases e⟩
      · simp only [Body.cells] at hc
        rw [b3 i (gc β0 c) (by rw [List.getElem?_map, hc]; rfl)]
        exact congrArg some (gc_congr fun j hj => by rw [hcs c (List.mem_of_getElem? hc)] at hj; cases hj)
      · have := b2 (by simpa [Body.cells] using hne)
        intro hnew
        have := hw _ hnew
        omega
  · simp only [gv, g1, gc, upd_same, List.length_map]
    cases base with
    | none =>
      obtain ⟨h0, rfl⟩ := hb
      have h0 : cs = [] := by simpa using h0
      subst h0
      rfl
    | some a => simp only [RC.val, Nat.sub_zero, add_none hb.1]
  · intro i hi
    cases hi
    rw [hpS_snoc, upd_same]
    simp

def argSlR (α : Type) [Row α] : Arg α where
  rd := fun h v => match v with
    | .one (.c (.slc i off len sz rc true)) => match Nat.beq sz 1, liveOf h i with
      | true, some ⟨own, ty, esz, .row cs, pin⟩ => match Row.rd (α := α) ((cs.drop off).take len) with
        | some x => match leB (off + len) cs.length, Nat.blt len topLen, rc.fitsB off len 1 esz with
          | true, true, true => some (x, .t, [i])
          | _, _, _ => none
        | none => none
      | _, _ => none
    | _ => none
  is := fun w v x => SlVals w v ((Row.cs x).map (gc β0))
  ok := fun {w0 β h w v x p rs} e _ hr _ => by
    split at e
    · rename_i i off len sz rc
      split at e
      · rename_i own ty esz cs pin hsz hb
        have hsz := Nat.eq_of_beq_eq_true hsz
        subst hsz
        have hb := liveOf_some hb
        split at e
        · rename_i y hy
          split at e
          · rename_i h1 h2 h3
            cases e
            have := SlVals.of_view (kn := true) hr hb (Nat.le_of_ble_eq_true h1) (Nat.le_of_ble_eq_true h2) (RC.fits_of h3)
            simp only [Body.cells, Row.rd_ok hy β] at this
            exact this
          · cases e
        · cases e
      · cases e
    · cases e
  near := fun {h h' v x p rs} e H => by
    split at e
    · rename_i i off len sz rc
      split at e
      · rename_i own ty esz cs pin hsz hb
        split at e
        · rename_i y hy
          split at e
          · rename_i h1 h2 h3
            cases e
            have hi : h i = h' i := H i (by simp)
            have hl : liveOf h' i = liveOf h i := by unfold liveOf; rw [hi]
            simp only [hl, hb, hsz, hy, h1, h2, h3]
          · cases e
        · cases e
      · cases e
    · cases e

def inpSlR (α : Type) [Row α] (n : Nat) (hn : ∀ x : α, n = (Row.cs x).length) : Inp α where
  arg := argSlR α
  av := fun k _ => .one (.c (.slc k 0 n 1 (.of 0) true))
  hes := fun x => [.live ⟨false, 0, 1, .row (Row.cs x), false⟩]
  fact := fun _ => True
  known := fun _ => trivial
  intro := fun {w0 β heap w v x} hr hw hv => by
    obtain ⟨p, h1, h2, h3⟩ := SlVals.named hr hw (Row.cs_id x) hv (hn x) true
    exact ⟨_, h1, h2, h3, fun i hi => upd_ne _ _ (by omega)⟩

end Go.Proofs.Ytchlamfdofpolaa

/- The executor, part x: states made general ahead of a loop; loops with answers within. -/
set_option linter.unusedSimpArgs false
set_option linter.unusedVariables false
namespace Go.Proofs.Ytchlamfdofpolaa
open Go.RowKit

/-- How a slot is made general: as it is; a number as a term; a 64-bit number; a slice of a length that is a term; nil as a named row. -/
inductive G where
  | as | int | u64 | u8 | bool | bit | slc
  | nil (id : Nat)
  | nilE (id sz : Nat)

/-- How a block is: as it is; a list. -/
inductive GB where
  | as
  | lst (k : EK)
  | rws (k : RK)
  | one (k : RK)
/-- Kinds of elements of lists that come to be. -/
inductive NK where
  | u64 | u8 | bool
  | rows (k : RK)
  /-- Elements that are so many of a kind. -/
  | rowsM (k : RK) (m : Nat)
def NK.body : NK → Body
  | .u64 => .elts .u64 []
  | .u8 => .elts .u8 []
  | .bool => .elts .bool []
  | .rows k => .rows k []
  | .rowsM k _ => .rows k []
def NK.esz : NK → Nat
  | .u64 => 1
  | .u8 => 1
  | .bool => 1
  | .rows k => k.sz
  | .rowsM k m => (m + 1) * k.sz
theorem NK.body_nil (k : NK) : k.body.cells = [] := by cases k <;> rfl
theorem NK.esz_pos (k : NK) : k.esz ≠ 0 := by
  cases k with
  | rows k => exact Nat.ne_of_gt k.sz_pos
  | rowsM k m => exact Nat.ne_of_gt (Nat.mul_pos (Nat.succ_pos m) k.sz_pos)
  | _ => exact Nat.one_ne_zero

def genV (old all : Nat) (g : G) (v : AV) : Option AV :=
  match g, v with
  | .as, v => some v
  | .int, .one (.c c) => match toI c with
    | some (k, n) => some (.one (.c (.int k n)))
    | none => none
  | .u64, .one (.c c) => match toU c with
    | some x => some (.one (.c (.u64 x)))
    | none => none
  | .u8, .one (.c c) => match toB c with
    | some x => some (.one (.c (.u8 x)))
    | none => none
  | .bool, .one (.c c) => match toBool c with
    | some x => some (.one (.c (.bool x)))
    | none => none
  | .bit, .one (.c c) => match toBit c with
    | some x => some (.one (.c (.bit x)))
    | none => none
  | .slc, .one (.c (.slc i off len sz rc _)) => some (.one (.c (.slc i off len sz rc false)))
  | .nil id, .one (.c .nils) => match leB old id && Nat.blt id all with
    | true => some (.one (.c (.slc id 0 0 1 (.of 0) false)))
    | false => none
  | .nilE id sz, .one (.c .nils) => match leB old id && Nat.blt id all with
    | true => some (.one (.c (.slc id 0 0 sz (.of 0) false)))
    | false => none
  | _, _ => none

def genB (g : GB) (x : HE) : Option HE :=
  match g, x with
  | .as, x => some x
  | .lst k, .live ⟨own, ty, esz, .row cs, pin⟩ => match mapO k.rd cs with
    | some xs => some (.live ⟨own, ty, esz, .elts k xs, pin⟩)
    | none => none
  | .lst _, .live ⟨own, ty, esz, .elts k' xs, pin⟩ => some (.live ⟨own, ty, esz, .elts k' xs, pin⟩)
  | .rws k, .live ⟨own, ty, esz, .row cs, pin⟩ => match readRows k cs with
    | some xs => some (.live ⟨own, ty, esz, .rows k xs, pin⟩)
    | none => none
  | .one k, .live ⟨own, ty, esz, .row cs, pin⟩ => match k.rd cs with
    | some x => some (.live ⟨own, ty, esz, .row (k.cs x), pin⟩)
    | none => none
  | .rws _, .live ⟨own, ty, esz, .rows k' xs, pin⟩ => some (.live ⟨own, ty, esz, .rows k' xs, pin⟩)
  | _, _ => none

def genBs : List GB → List HE → Option (List HE)
  | [], hs => some hs
  | g :: gs, x :: xs => match genB g x, genBs gs xs with
    | some y, some ys => some (y :: ys)
    | _, _ => none
  | _ :: _, [] => none

def newRows : List (TypeId × NK) → List HE
  | [] => []
  | (ty, k) :: rest => .live ⟨true, ty, k.esz, k.body, false⟩ :: newRows rest

def genSt (gs : List (Nat × G)) (bs : List GB) (news : List (TypeId × NK)) (st : St) : Option St :=
  match mapO (fun (p : Nat × G) => match st.tmps.tr.get p.1 with
    | some v => match genV st.heap.length (st.heap.length + news.length) p.2 v with
      | some u => some (p.1, u)
      | none => none
    | none => none) gs, genBs bs st.heap with
  | some l, some hp => some (mkSt st.tmps.n l (hp ++ newRows news))
  | _, _ => none

/-- Blocks whose cells stand for the same. -/
def SameHE (x y : HE) : Prop := x = y ∨ ∃ b body, x = .live b ∧ y = .live { b with body := body } ∧ (∀ β, body.cells.map (gc β) = b.body.cells.map (gc β)) ∧ (∀ c ∈ body.cells, c.idOf = none)

theorem genB_spec {g : GB} {x y : HE} (h : genB g x = some y) : SameHE x y := by
  unfold genB at h
  split at h
  · cases h; exact .inl rfl
  · split at h
    · rename_i xs hxs
      cases h
      refine .inr ⟨_, _, rfl, rfl, fun β => mapO_rd hxs β, fun c hc => ?_⟩
      simp only [Body.cells, List.mem_map] at hc
      obtain ⟨x, _, rfl⟩ := hc
      exact EK.cell_id _ x
    · cases h
  · cases h; exact .inl rfl
  · split at h
    · rename_i xs hxs
      cases h
      refine .inr ⟨_, _, rfl, rfl, fun β => ?_, rowsC_id _ xs⟩
      exact (rowsC_gc _ xs β).trans (readRows_ok _ β hxs).symm
    · cases h
  · split at h
    · rename_i x hx
      cases h
      refine .inr ⟨_, _, rfl, rfl, fun β => ?_, RK.cs_id _ x⟩
      exact (RK.cs_ok _ x β).trans (RK.rd_ok _ hx β).symm
    · cases h
  · cases h; exact .inl rfl
  · cases h

theorem genBs_spec : ∀ {gs : List GB} {xs ys : List HE}, genBs gs xs = some ys → ys.length = xs.length ∧ ∀ i, SameHE (hpS xs i) (hpS ys i)
  | [], xs, ys, h => by cases h; exact ⟨rfl, fun i => .inl rfl⟩
  | g :: gs, [], ys, h => by cases h
  | g :: gs, x :: xs, ys, h => by
    simp only [genBs] at h
    split at h
    · rename_i y ys' hy hys
      cases h
      obtain ⟨h1, h2⟩ := genBs_spec hys
      refine ⟨by simp [h1], fun i => ?_⟩
      cases i with
      | zero => exact genB_spec hy
      | succ i => exact h2 i
    · cases h

theorem SameHE.un {x y : HE} (h : SameHE x y) : x ≠ .un → y ≠ .un := by
  rcases h with rfl | ⟨b, body, rfl, rfl, _⟩
  · exact id
  · intro _ e; cases e

theorem SameHE.live {x : HE} {b' : Blk} (h : SameHE x (.live b')) : ∃ b, x = .live b ∧ b' = { b with body := b'.body } ∧ (∀ β, b'.body.cells.map (gc β) = b.body.cells.map (gc β)) ∧ ((∀ c ∈ b'.body.cells, c.idOf = none) ∨ b' = b) := by
  rcases h with rfl | ⟨b, body, rfl, e, h1, h2⟩
  · exact ⟨b', rfl, rfl, fun _ => rfl, .inr rfl⟩
  · cases e
    exact ⟨b, rfl, rfl, h1, .inl h2⟩

theorem BlkOk.same {β : Nat → Pl} {w0 : W0} {w : World} {i : Nat} {b : Blk} {body : Body} (hb : BlkOk β w0 w i b) (h : body.cells.map (gc β) = b.body.cells.map (gc β)) : BlkOk β w0 w i { b with body := body } := by
  have hl : body.cells.length = b.body.cells.length := by have := congrArg List.length h; simpa using this
  have hne : body.cells = [] ↔ b.body.cells = [] := by rw [← List.length_eq_zero_iff, hl, List.length_eq_zero_iff]
  unfold BlkOk at *
  cases ha : (β i).base with
  | none =>
    rw [ha] at hb
    exact ⟨hne.2 hb.1, hb.2⟩
  | some a =>
    rw [ha] at hb
    obtain ⟨h0, h1, h2, h3, h4⟩ := hb
    refine ⟨h0, fun j c hj => ?_, fun ho hn => h2 ho (fun e => hn (hne.2 e)), fun hz => by show body.cells.length ≤ _; rw [hl]; exact h3 hz, fun ho => ?_⟩
    · have e : (body.cells.map (gc β))[j]? = some (gc β c) := by rw [List.getElem?_map, hj]; rfl
      rw [h, List.getElem?_map] at e
      cases hc : b.body.cells[j]? with
      | none => rw [hc] at e; cases e
      | some c' =>
        rw [hc] at e
        rw [h1 j c' hc]
        exact e
    · obtain ⟨q1, q2, cur, q3, q4, q5, q6⟩ := h4 ho
      exact ⟨q1, q2, cur, q3, by show body.cells.length ≤ _; rw [hl]; exact q4, q5, fun hz => by show _ = body.cells.length; rw [hl]; exact q6 hz⟩

theorem HRel.sameHE {w0 : W0} {β : Nat → Pl} {h h' : Heap} {w : World} (r : HRel w0 β h w) (hs : ∀ i, SameHE (h i) (h' i)) : HRel w0 β h' w where
  below := r.below
  blk := fun i b' hb' => by
    have := hs i
    rw [hb'] at this
    obtain ⟨b, e1, e2, e3, _⟩ := this.live
    rw [e2]
    exact (r.blk i b e1).same (e3 β)
  sep := fun i j b c hb hc hne ho hoc hbase => by
    have h1 := hs i
    rw [hb] at h1
    have h2 := hs j
    rw [hc] at h2
    obtain ⟨b1, e1, e2, _⟩ := h1.live
    obtain ⟨b2, f1, f2, _⟩ := h2.live
    rw [e2] at ho
    rw [f2] at hoc
    exact r.sep i j b1 b2 e1 f1 hne ho hoc hbase
  okc := fun i b' hb' c hc => by
    have := hs i
    rw [hb'] at this
    obtain ⟨b, e1, e2, e3, e4⟩ := this.live
    rcases e4 with e4 | e4
    · exact okc_none (e4 c hc)
    · subst e4
      intro j hj
      exact (hs j).un (r.okc i b' e1 c hc j hj)
  pin := fun i b' hb' hp => by
    have := hs i
    rw [hb'] at this
    obtain ⟨b, e1, e2, e3, e4⟩ := this.live
    rw [e2] at hp
    exact r.pin i b e1 hp

theorem HRel.newRows {w0 : W0} {w : World} : ∀ (news : List (TypeId × NK)) {β : Nat → Pl} {heap : List HE}, HRel w0 β (hpS heap) w →
    ∃ β', HRel w0 β' (hpS (heap ++ Go.Proofs.Ytchlamfdofpolaa.newRows news)) w ∧ (∀ i, i < heap.length → β' i = β i) ∧ ∀ i, heap.length ≤ i → i < heap.length + news.length → β' i = ⟨none, 0⟩
  | [], β, heap, r => ⟨β, by simpa [Go.Proofs.Ytchlamfdofpolaa.newRows] using r, fun _ _ => rfl, fun i h1 h2 => by simp at h2; omega⟩
  | (ty, k) :: rest, β, heap, r => by
    have r1 := r.newNil (hpS_un heap) (Below.refl _ _) ty k.esz k.esz_pos k.body k.body_nil
    rw [← hpS_snoc] at r1
    obtain ⟨β', h1, h2, h3⟩ := HRel.newRows rest r1
    refine ⟨β', by simpa [Go.Proofs.Ytchlamfdofpolaa.newRows, List.append_assoc] using h1, fun i hi => ?_, fun i h4 h5 => ?_⟩
    · rw [h2 i (by simp; omega), upd_ne _ _ (by omega)]
    · by_cases e : i = heap.length
      · subst e
        rw [h2 _ (by simp), upd_same]
      · exact h3 i (by simp; omega) (by simp at h5 ⊢; omega)

theorem okone {h : Heap} {c : Cell} (hc : c.idOf = none) : okv h (.one (.c c)) := okc_none hc

theorem genSt_rel {gs : List (Nat × G)} {bs : List GB} {news : List (TypeId × NK)} {st st' : St} (h : genSt gs bs news st = some st') {w0 : W0} {a : Act} {w : World} (r : SRel w0 st a w) : SRel w0 st' a w := by
  unfold genSt at h
  split at h
  · rename_i l hp hl hhp
    cases h
    obtain ⟨β, h1, h2⟩ := r
    obtain ⟨b1, b2⟩ := genBs_spec hhp
    obtain ⟨β', r', k1, k2⟩ := HRel.newRows news (h1.sameHE b2)
    rw [b1] at k1 k2
    have grow : Grows (hpS st.heap) (hpS (hp ++ newRows news)) := fun i hi => grows_append hp (newRows news) i ((b2 i).un hi)
    have agree : ∀ {v : AV}, okv (hpS st.heap) v → gv β' v = gv β v := fun hv => gv_agree (heap := st.heap) (fun i hi => k1 i hi) hv
    refine ⟨β', r', ⟨h2.size, h2.defers, fun t v hv => ?_⟩⟩
    have hmem := mkTr_get l t v hv
    have := mapO_all (p := fun q : Nat × AV => ∃ g u, st.tmps.tr.get q.1 = some u ∧ genV st.heap.length (st.heap.length + news.length) g u = some q.2) (fun x y e => by
      split at e
      · rename_i u hu
        split at e
        · rename_i u' hu'
          cases e
          exact ⟨x.2, u, hu, hu'⟩
        · cases e
      · cases e) hl (t, v) hmem
    obtain ⟨g, u, e1, e2⟩ := this
    obtain ⟨f1, f2⟩ := h2.ok t u e1
    have same : ∀ v', gv β v' = gv β u → okv (hpS st.heap) v' → v = v' → a.tmps[t]? = some (gv β' v) ∧ okv (hpS (hp ++ newRows news)) v := by
      rintro v' q1 q2 rfl
      exact ⟨by rw [agree q2, q1]; exact f1, q2.grow grow⟩
    unfold genV at e2
    split at e2
    · cases e2; exact same v rfl f2 rfl
    · split at e2
      · rename_i c k n hc
        cases e2
        exact same (.one (.c (.int k n))) (by simp only [gv, g1, toI_gc β hc]; rfl) (okone rfl) rfl
      · cases e2
    · split at e2
      · rename_i c x hc
        cases e2
        exact same (.one (.c (.u64 x))) (by simp only [gv, g1, toU_gc β hc]; rfl) (okone rfl) rfl
      · cases e2
    · split at e2
      · rename_i c x hc
        cases e2
        exact same (.one (.c (.u8 x))) (by simp only [gv, g1, toB_gc β hc]; rfl) (okone rfl) rfl
      · cases e2
    · split at e2
      · rename_i c x hc
        cases e2
        exact same (.one (.c (.bool x))) (by simp only [gv, g1, toBool_gc β hc]; rfl) (okone rfl) rfl
      · cases e2
    · split at e2
      · rename_i c x hc
        cases e2
        exact same (.one (.c (.bit x))) (by simp only [gv, g1]; unfold toBit at hc; split at hc <;> cases hc <;> rfl) (okone rfl) rfl
      · cases e2
    · cases e2
      exact same (.one (.c (.slc _ _ _ _ _ false))) rfl (fun i hi => f2 i hi) rfl
    · rename_i id
      split at e2
      · rename_i hid
        cases e2
        simp only [Bool.and_eq_true] at hid
        have i1 := leB_le hid.1
        have i2 : id < st.heap.length + news.length := Nat.le_of_ble_eq_true hid.2
        refine ⟨?_, fun j hj => ?_⟩
        · rw [f1]
          simp only [gv, g1, gc, k2 id i1 i2]
        · cases hj
          show hpS (hp ++ newRows news) id ≠ .un
          rw [hpS_get]
          have hlt : id < (hp ++ newRows news).length := by
            have : ∀ l : List (TypeId × NK), (newRows l).length = l.length := by
              intro l
              induction l with
              | nil => rfl
              | cons x l ih => obtain ⟨ty, k⟩ := x; simp [newRows, ih]
            rw [List.length_append, this, b1]; exact i2
          have hn : hp.length ≤ id := by omega
          rw [List.getElem?_append_right hn]
          have live : ∀ (l : List (TypeId × NK)) (j : Nat), j < l.length → ∃ b, (newRows l)[j]? = some (.live b) := by
            intro l
            induction l with
            | nil => intro j hj; simp at hj
            | cons x l ih =>
              intro j hj
              obtain ⟨ty, k⟩ := x
              cases j with
              | zero => exact ⟨_, rfl⟩
              | succ j => exact ih j (by simpa using hj)
          obtain ⟨b, hb⟩ := live news (id - hp.length) (by omega)
          rw [hb]
          simp
      · cases e2
    · rename_i id sz
      split at e2
      · rename_i hid
        cases e2
        simp only [Bool.and_eq_true] at hid
        have i1 := leB_le hid.1
        have i2 : id < st.heap.length + news.length := Nat.le_of_ble_eq_true hid.2
        refine ⟨?_, fun j hj => ?_⟩
        · rw [f1]
          simp only [gv, g1, gc, k2 id i1 i2]
        · cases hj
          show hpS (hp ++ newRows news) id ≠ .un
          rw [hpS_get]
          have hlt : id < (hp ++ newRows news).length := by
            have : ∀ l : List (TypeId × NK), (newRows l).length = l.length := by
              intro l
              induction l with
              | nil => rfl
              | cons x l ih => obtain ⟨ty, k⟩ := x; simp [newRows, ih]
            rw [List.length_append, this, b1]; exact i2
          have hn : hp.length ≤ id := by omega
          rw [List.getElem?_append_right hn]
          have live : ∀ (l : List (TypeId × NK)) (j : Nat), j < l.length → ∃ b, (newRows l)[j]? = some (.live b) := by
            intro l
            induction l with
            | nil => intro j hj; simp at hj
            | cons x l ih =>
              intro j hj
              obtain ⟨ty, k⟩ := x
              cases j with
              | zero => exact ⟨_, rfl⟩
              | succ j => exact ih j (by simpa using hj)
          obtain ⟨b, hb⟩ := live news (id - hp.length) (by omega)
          rw [hb]
          simp
      · cases e2
    · cases e2
  · cases h

theorem Wk.gen {gs : List (Nat × G)} {bs : List GB} {news : List (TypeId × NK)} {st st' : St} (h : genSt gs bs news st = some st') : Wk st st' := fun _ _ _ r => genSt_rel h r

/-- Some pieces; then the state made small, and general. -/
def stageG (E : Env) (n : Nat) (cs : List Code) (st : St) (keep hs : List Nat) (gs : List (Nat × G)) (bs : List GB) (news : List (TypeId × NK)) : Tree St := (stageT E n cs st keep hs).bind fun s => match genSt gs bs news s with
  | some s' => .leaf s'
  | none => .fail

theorem DoesL.stageG {E : Env} (hE : EnvOk E) (n k : Nat) (keep hs : List Nat) (gs : List (Nat × G)) (bs : List GB) (news : List (TypeId × NK)) {cs : List Code} {st : St} {R : X × St → Prop} {T : Tree St} (e : Go.Proofs.Ytchlamfdofpolaa.stageG E n (cs.take k) st keep hs gs bs news = T)
    (h : T.sat fun s => DoesL E (cs.drop k) s R) : DoesL E cs st R := by
  subst e
  refine DoesL.stage hE n k keep hs ?_
  unfold Go.Proofs.Ytchlamfdofpolaa.stageG at h
  rw [Tree.sat_bind] at h
  refine Tree.sat_mono (fun s hs => ?_) h
  split at hs
  · rename_i s' hs'
    exact DoesL.wk (Wk.gen hs') hs
  · exact hs.elim

theorem Does.of1 {E : Env} {c : Code} {st : St} {R : X × St → Prop} (h : DoesL E [c] st R) : Does E c st R := Does.wn (Does.mono h fun r hr => by
  obtain ⟨e, s⟩ := r
  cases e with
  | normal => exact hr
  | exit id => exact Wn.of hr
  | goto l => exact Wn.of hr
  | ret => exact Wn.of hr)

/-- A loop in its block, in the rounds of which the function may answer. -/
theorem DoesL.blockLoopR {ρ : Type} {E : Env} {o : Out ρ} {fn : Func} {x : ρ} {cs rest : List Code} {id : Nat} {B : Code} (e : cs = .block id (.loop B) :: rest) {ι : Type} (I : ι → St) (m : ι → Nat) (i : ι)
    (h : ∀ i, DoesL E [B] (I i) (Within E fn o x (Wn fun r => match r.1 with
      | .normal => ∃ j, m j < m i ∧ r.2 = I j
      | .exit id' => Nat.beq id' id = true ∧ DoesL E rest r.2 (EndsAs E fn (Reads o x))
      | _ => False))) : DoesL E cs (I i) (EndsAs E fn (Reads o x)) := by
  refine DoesL.blockLoop e I m i fun i => Does.wn (Does.mono (Does.of1 (h i)) fun r hr => ?_)
  obtain ⟨e, s⟩ := r
  cases e with
  | ret => exact Wn.of hr
  | normal => exact hr
  | exit id' => exact hr
  | goto l => obtain ⟨s', h1, h2⟩ := hr; exact h2.elim

theorem reads_p {α : Type} {y x : α} {P : Prop} (h : y = x) (hp : P) : ∃ p, some (y, Pr.p P) = some (x, p) ∧ p.holds := ⟨.p P, by rw [h], hp⟩
theorem reads_t {α : Type} {y x : α} (h : y = x) : ∃ p, some (y, Pr.t) = some (x, p) ∧ p.holds := ⟨.t, by rw [h], trivial⟩

/-- Some pieces, in which the function may answer; then the state made small, and general. -/
def segT {ρ : Type} (E : Env) (o : Out ρ) (n : Nat) (fn : Func) (cs : List Code) (st : St) (keep hs : List Nat) (gs : List (Nat × G)) (bs : List GB) (news : List (TypeId × NK)) : Tree (St ⊕ Option (ρ × Pr)) :=
  (iterT E o n fn cs st keep hs).bind fun q => match q with
    | .inl (.normal, s) => match genSt gs bs news s with
      | some s' => .leaf (.inl s')
      | none => .fail
    | .inl _ => .fail
    | .inr a => .leaf (.inr a)

def Seg {ρ : Type} (R : St → Prop) (x : ρ) : St ⊕ Option (ρ × Pr) → Prop
  | .inl s => R s
  | .inr a => ∃ p, a = some (x, p) ∧ p.holds

theorem DoesL.seg {ρ : Type} {E : Env} (hE : EnvOk E) {o : Out ρ} (n k : Nat) {fn : Func} {cs : List Code} {st : St} (keep hs : List Nat) (gs : List (Nat × G)) (bs : List GB) (news : List (TypeId × NK)) {x : ρ} {T : Tree (St ⊕ Option (ρ × Pr))}
    (e : segT E o n fn (cs.take k) st keep hs gs bs news = T) (h : T.sat (Seg (fun s => DoesL E (cs.drop k) s (EndsAs E fn (Reads o x))) x)) : DoesL E cs st (EndsAs E fn (Reads o x)) := by
  subst e
  unfold segT at h
  rw [Tree.sat_bind] at h
  have h1 := DoesL.iter (o := o) (fn := fn) (x := x) (R := fun r => match r.1 with | .normal => DoesL E (cs.drop k) r.2 (EndsAs E fn (Reads o x)) | _ => False) hE n (cs := cs.take k) (st := st) keep hs rfl (Tree.sat_mono (fun q hq => by
    cases q with
    | inl r =>
      obtain ⟨e, s⟩ := r
      cases e with
      | normal =>
        simp only at hq
        split at hq
        · rename_i s' hs'
          exact DoesL.wk (Wk.gen hs') hq
        · exact hq.elim
      | exit id => exact hq.elim
      | goto l => exact hq.elim
      | ret => exact hq.elim
    | inr a => exact hq) h)
  rw [← List.take_append_drop k cs]
  refine DoesL.join (DoesL.wn (DoesL.mono h1 fun r hr => ?_))
  obtain ⟨e, s⟩ := r
  cases e with
  | normal => exact hr
  | ret => exact Wn.of hr
  | exit id => obtain ⟨s', q1, q2⟩ := hr; exact q2.elim
  | goto l => obtain ⟨s', q1, q2⟩ := hr; exact q2.elim

/-- An argument of which something more is asked. -/
def Arg.such {α : Type} (a : Arg α) (q : α → Prop) : Arg α where
  rd := fun h v => match a.rd h v with
    | some (x, p, rs) => some (x, p.and (.p (q x)), rs)
    | none => none
  is := fun w v x => a.is w v x ∧ q x
  ok := fun {w0 β h w v x p rs} e hp hr hok => by
    split at e
    · rename_i y p' rs' hy
      cases e
      have := Pr.and_holds hp
      exact ⟨a.ok hy this.1 hr hok, this.2⟩
    · cases e
  near := fun {h h' v x p rs} e H => by
    split at e
    · rename_i y p' rs' hy
      cases e
      rw [a.near hy H]
    · cases e

def Inp.such {α : Type} (a : Inp α) (q : α → Prop) : Inp α where
  arg := a.arg.such q
  av := a.av
  hes := a.hes
  fact := fun x => a.fact x ∧ q x
  known := fun h => ⟨a.known h.1, h.2⟩
  intro := fun hr hw h => a.intro hr hw h.1

/-- A slice, and a number beside it, as an answer. -/
def resSl2 {α : Type} (el : El α) (ty : TypeId) : Res (List α × Int) where
  wr := fun id x => .tup [.c (.slc id 0 x.1.length 1 (.of 0) false), .c (.int .i64 x.2)]
  new := fun x => some ⟨true, ty, 1, el.body x.1, false⟩
  is := fun w w' v x => ∃ v1, v = .tuple #[v1, .int .i64 x.2] ∧ (resSl el ty).is w w' v1 x.1
  ok := fun {w0 β h w w' id v x} hr hid hb hf => by
    obtain ⟨v1, rfl, h1⟩ := hf
    obtain ⟨p, e1, e2, e3⟩ := (resSl el ty).ok hr hid hb h1
    refine ⟨p, ?_, e2, ?_⟩
    · rw [e1]; rfl
    · intro u hu
      simp only [List.mem_cons, List.not_mem_nil, or_false] at hu
      rcases hu with rfl | rfl
      · exact e3
      · exact okc_none rfl

def outSl2 {α : Type} (el : El α) (ty : TypeId) : Out (List α × Int) where
  res := resSl2 el ty
  rd := fun hp v => match v with
    | .tup [a, .c c] => match (outSl el ty).rd hp (.one a), toI c with
      | some (xs, p), some (.i64, n) => some ((xs, n), p)
      | _, _ => none
    | _ => none
  ok := fun {w β hp w' v x p} e hp' hr hok => by
    split at e
    · rename_i a c
      split at e
      · rename_i xs p' n hx hn
        cases e
        have h1 := (outSl el ty).ok hx hp' hr (hok a (by simp))
        exact ⟨_, by simp only [gv, List.map_cons, List.map_nil, g1, toI_gc β hn], h1⟩
      · cases e
    · cases e

/-- Lists to which may be appended. -/
def capLen : Nat := 1099511627776

/-- As many rounds as a number. -/
def iterG {ρ : Type} (E : Env) (o : Out ρ) (n : Nat) (fn : Func) (B : Code) (st : St) (keep hs : List Nat) : Tree ((X × St) ⊕ Option (ρ × Pr)) := iterT E o n fn [B] st keep hs

end Go.Proofs.Ytchlamfdofpolaa

/- The executor, part y: calls that write into a block of the caller's. -/
set_option linter.unusedSimpArgs false
set_option linter.unusedVariables false
namespace Go.Proofs.Ytchlamfdofpolaa
open Go.RowKit

theorem BlkOk.plain {β β' : Nat → Pl} {w0 : W0} {w : World} {i j : Nat} {b : Blk} (h : BlkOk β w0 w i b) (e : β' j = β i) (hcs : ∀ c ∈ b.body.cells, c.idOf = none) : BlkOk β' w0 w j b := by
  unfold BlkOk at *
  rw [e]
  cases ha : (β i).base with
  | none => rw [ha] at h; exact h
  | some a =>
    rw [ha] at h
    obtain ⟨h0, h1, h2⟩ := h
    refine ⟨h0, fun k c hk => ?_, h2⟩
    rw [h1 k c hk]
    exact congrArg some (gc_congr fun m hm => by rw [hcs c (List.mem_of_getElem? hk)] at hm; cases hm)

/-- The two blocks that a call that writes takes: the one that it writes, pinned; and one that it reads. -/
def twoHE (b d : Blk) : List HE := [.live { b with pin := true }, .live { d with own := false, pin := false }]

theorem HRel.two {w0 : W0} {β : Nat → Pl} {h : Heap} {w : World} (r : HRel w0 β h w) {i j : Nat} {b d : Blk} (hi : h i = .live b) (ho : b.own = true) (hj : h j = .live d) (hij : i ≠ j) (hcs : ∀ c ∈ b.body.cells, c.idOf = none)
    (hds : ∀ c ∈ d.body.cells, c.idOf = none) {a : Addr} (ha : (β i).base = some a) : HRel ⟨w, fun g => g = a.block, β i⟩ (plOf β [i, j]) (hpS (twoHE b d)) w := by
  have hB : w0.new a.block := by
    have := r.blk i b hi
    unfold BlkOk at this
    rw [ha] at this
    exact (this.2.2.2.2 ho).1
  have h0 : hpS (twoHE b d) 0 = .live { b with pin := true } := rfl
  have h1 : hpS (twoHE b d) 1 = .live { d with own := false, pin := false } := rfl
  have h2 : ∀ k, 2 ≤ k → hpS (twoHE b d) k = .un := fun k hk => by rw [hpS_get, List.getElem?_eq_none (by simpa [twoHE] using hk)]; rfl
  have cases2 : ∀ {k : Nat} {c : Blk}, hpS (twoHE b d) k = .live c → (k = 0 ∧ c = { b with pin := true }) ∨ (k = 1 ∧ c = { d with own := false, pin := false }) := by
    intro k c hk
    match k with
    | 0 => rw [h0] at hk; cases hk; exact .inl ⟨rfl, rfl⟩
    | 1 => rw [h1] at hk; cases hk; exact .inr ⟨rfl, rfl⟩
    | k + 2 => rw [h2 _ (by omega)] at hk; cases hk
  have p0 : plOf β [i, j] 0 = β i := rfl
  have p1 : plOf β [i, j] 1 = β j := rfl
  refine ⟨Bel.refl ⟨w, _, _⟩, fun k c hk => ?_, fun k l c e hk hl hne hco heo hbase => ?_, fun k c hk x hx => ?_, fun k c hk hp => ?_⟩
  · rcases cases2 hk with ⟨rfl, rfl⟩ | ⟨rfl, rfl⟩
    · have hb := r.blk i b hi
      unfold BlkOk at hb ⊢
      rw [p0]
      rw [ha] at hb ⊢
      obtain ⟨q0, q1, q2, q3, q4⟩ := hb
      refine ⟨q0, fun m c hm => ?_, fun e => ?_, q3, fun _ => ?_⟩
      · rw [q1 m c hm]
        exact congrArg some (gc_congr fun n hn => by rw [hcs c (List.mem_of_getElem? hm)] at hn; cases hn)
      · exact absurd (show b.own = false from e) (by rw [ho]; simp)
      · obtain ⟨_, r2⟩ := q4 ho
        exact ⟨.inr rfl, r2⟩
    · have hb := r.blk j d hj
      have hlt := fun a' ha' hne => hb.lt r.below (a := a') ha' hne
      unfold BlkOk at hb ⊢
      rw [p1]
      cases hja : (β j).base with
      | none => rw [hja] at hb; exact hb
      | some a' =>
        rw [hja] at hb
        obtain ⟨q0, q1, q2, q3, q4⟩ := hb
        refine ⟨q0, fun m c hm => ?_, fun _ hne => ?_, q3, fun e => by cases e⟩
        · rw [q1 m c hm]
          exact congrArg some (gc_congr fun n hn => by rw [hds c (List.mem_of_getElem? hm)] at hn; cases hn)
        · rintro (h3 | h3)
          · have := hlt a' hja (.inr hne)
            have h3 : w.heap.size ≤ a'.block := h3
            omega
          · have h3 : a'.block = a.block := h3
            cases hdo : d.own with
            | false => exact q2 hdo hne (by rw [h3]; exact hB)
            | true =>
              have := r.sep i j b d hi hj hij ho hdo (by rw [ha]; simp)
              unfold blockOf at this
              rw [ha, hja] at this
              exact this (by simp [h3])
  · rcases cases2 hk with ⟨rfl, rfl⟩ | ⟨rfl, rfl⟩
    · rcases cases2 hl with ⟨rfl, rfl⟩ | ⟨rfl, rfl⟩
      · exact absurd rfl hne
      · cases heo
    · cases hco
  · rcases cases2 hk with ⟨rfl, rfl⟩ | ⟨rfl, rfl⟩
    · exact okc_none (hcs x hx)
    · exact okc_none (hds x hx)
  · rcases cases2 hk with ⟨rfl, rfl⟩ | ⟨rfl, rfl⟩
    · exact p0
    · cases hp

/-- What a function that writes into its first block comes to. -/
def WritesTo (b : Blk) (body : Body) (rv : AV) : AV → List HE → Prop := fun v hp => v = rv ∧ hpS hp 0 = .live { b with body := body, pin := true }

theorem calls_writes {E : Env} {f : FuncId} {fn : Func} (hf : E.P.funcs[f]? = some fn) {c : Code} (hb : fn.body = some c) {w0 : W0} {β : Nat → Pl} {h : Heap} {w : World} (r : HRel w0 β h w) {i j : Nat} {b d : Blk} (hi : h i = .live b) (ho : b.own = true)
    (hj : h j = .live d) (hij : i ≠ j) (hcs : ∀ c ∈ b.body.cells, c.idOf = none) (hds : ∀ c ∈ d.body.cells, c.idOf = none) (hne : b.body.cells ≠ []) {avs : List AV} (hav : ∀ v ∈ avs, okv (hpS (twoHE b d)) v) {body : Body} {rv : AV}
    (hbc : ∀ c ∈ body.cells, c.idOf = none) (hrv : ∀ β' β'' : Nat → Pl, β' 0 = β'' 0 → gv β' rv = gv β'' rv)
    (run : DoesL E (flat c) (startSt fn avs (twoHE b d)) (EndsAs E fn (WritesTo b body rv))) :
    Calls E.P f (avs.map (gv (plOf β [i, j]))).toArray w fun e w' => e = .returned (gv (plOf β [i, j]) rv) ∧ HRel w0 β (upd h i (.live { b with body := body })) w' := by
  obtain ⟨a, ha, _⟩ := r.base_some hi (.inl hne)
  have hB : w0.new a.block := by
    have := r.blk i b hi
    unfold BlkOk at this
    rw [ha] at this
    exact (this.2.2.2.2 ho).1
  refine calls_does hf hb (r.two hi ho hj hij hcs hds ha) hav run fun v hp hv β' w' hr' hok' => ?_
  obtain ⟨rfl, h0⟩ := hv
  have hpin : β' 0 = β i := hr'.pin 0 _ h0 rfl
  refine ⟨by rw [hrv β' (plOf β [i, j]) (by rw [hpin]; rfl)], ?_⟩
  have hbel : Bel ⟨w, fun g => g = a.block, ⟨none, 0⟩⟩ w' := ⟨hr'.below.os, hr'.below.tape, hr'.below.output, hr'.below.size, hr'.below.block⟩
  refine r.wrote hi ho ha body hbel ?_ (fun c hc => okc_none (hbc c hc))
  have hblk := (hr'.blk 0 _ h0).plain (β' := β) (j := i) hpin.symm hbc
  unfold BlkOk at hblk ⊢
  rw [ha] at hblk ⊢
  obtain ⟨q0, q1, q2, q3, q4⟩ := hblk
  refine ⟨q0, q1, fun e => absurd (show b.own = false from e) (by rw [ho]; simp), q3, fun _ => ?_⟩
  obtain ⟨_, r2⟩ := q4 ho
  exact ⟨hB, r2⟩

/-- The last pieces of a function that writes: its answer, and its first block. -/
def wendT (E : Env) (n : Nat) (fn : Func) (cs : List Code) (st : St) : Tree (Option (AV × HE)) := (execL E n cs st).bind fun q => match q.1 with
  | .normal | .ret => match resAll E.P fn.results.toList q.2 with
    | some v => .leaf (some (v, hpS q.2.heap 0))
    | none => .fail
  | _ => .fail

theorem DoesL.wends {E : Env} (hE : EnvOk E) (n : Nat) {fn : Func} {cs : List Code} {st : St} {b : Blk} {body : Body} {rv : AV} {T : Tree (Option (AV × HE))} (e : wendT E n fn cs st = T)
    (h : T.sat fun q => q = some (rv, .live { b with body := body, pin := true })) : DoesL E cs st (EndsAs E fn (WritesTo b body rv)) := by
  subst e
  refine DoesL.exec hE n ?_
  unfold wendT at h
  rw [Tree.sat_bind] at h
  refine Tree.sat_mono (fun q hq => ?_) h
  obtain ⟨e, s⟩ := q
  have fin : (match resAll E.P fn.results.toList s with | some v => Tree.leaf (some (v, hpS s.heap 0)) | none => .fail).sat (fun q => q = some (rv, HE.live { b with body := body, pin := true })) → ∃ v, resAll E.P fn.results.toList s = some v ∧ WritesTo b body rv v s.heap := by
    intro h
    split at h
    · rename_i v hv
      have h : some (v, hpS s.heap 0) = some (rv, HE.live { b with body := body, pin := true }) := h
      simp only [Option.some.injEq, Prod.mk.injEq] at h
      exact ⟨v, hv, h.1, h.2⟩
    · exact h.elim
  cases e with
  | normal => exact ⟨trivial, fin hq⟩
  | ret => exact ⟨trivial, fin hq⟩
  | exit id => exact hq.elim
  | goto l => exact hq.elim

/-- The numbers of a whole block. -/
def numsOf (b : Blk) (len : Nat) (kn : Bool) : Option (Cond (List UInt64)) :=
  match b.body, kn with
  | .row cs, true => match mapO toU cs, Nat.beq len cs.length && Nat.beq b.esz 1 with
    | some xs, true => some ⟨.t, xs⟩
    | _, _ => none
  | .elts .u64 xs, _ => match Nat.beq b.esz 1 with
    | true => some ⟨.p (len = xs.length), xs⟩
    | false => none
  | _, _ => none

def numsAs (b : Blk) (xs : List UInt64) : Blk := match b.body with
  | .row _ => { b with body := .row (xs.map .u64) }
  | _ => { b with body := .elts .u64 xs }

theorem numsOf_spec {b : Blk} {len : Nat} {kn : Bool} {c : Cond (List UInt64)} (h : numsOf b len kn = some c) (hp : c.pre.holds) : (∀ β, ((c.val.map Cell.u64).map (gc β)) = b.body.cells.map (gc β)) ∧ len = c.val.length ∧ b.esz = 1 ∧ (∀ x ∈ b.body.cells, x.idOf = none) := by
  unfold numsOf at h
  split at h
  · rename_i cs hbody
    split at h
    · rename_i xs hxs hc
      cases h
      simp only [Bool.and_eq_true] at hc
      have h1 := Nat.eq_of_beq_eq_true hc.1
      have h2 := Nat.eq_of_beq_eq_true hc.2
      rw [hbody]
      refine ⟨fun β => mapO_rd (k := .u64) hxs β, by rw [h1]; exact ((mapO_get hxs).1).symm, h2, fun x hx => ?_⟩
      have : ∀ {cs : List Cell} {xs : List UInt64}, mapO toU cs = some xs → ∀ x ∈ cs, x.idOf = none := by
        intro cs
        induction cs with
        | nil => intro xs _ x hx; cases hx
        | cons c cs ih =>
          intro xs h x hx
          simp only [mapO] at h
          split at h
          · rename_i y ys hy hys
            rcases List.mem_cons.1 hx with rfl | hx
            · unfold toU at hy
              split at hy <;> first | rfl | cases hy
            · exact ih hys x hx
          · cases h
      exact this hxs x hx
    · cases h
  · rename_i xs hbody
    split at h
    · rename_i hc
      cases h
      have h2 := Nat.eq_of_beq_eq_true hc
      rw [hbody]
      refine ⟨fun β => rfl, hp, h2, fun x hx => ?_⟩
      simp only [Body.cells, List.mem_map] at hx
      obtain ⟨y, _, rfl⟩ := hx
      rfl
    · cases h
  · cases h

/-- A contract: a slice of numbers of the caller's own is written, by what it and a second slice hold. -/
def Kwl (F : List UInt64 → List UInt64 → List UInt64) : Contract := fun _ h args =>
  match args with
  | [.one (.c (.slc i 0 len 1 (.of 0) kn)), .one (.c (.slc j 0 m 1 (.of 0) kn'))] => match liveOf h i, liveOf h j, Nat.beq i j with
    | some b, some d, false => match b.own, numsOf b len kn, numsOf d m kn' with
      | true, some ⟨p, xs⟩, some ⟨q, ys⟩ => some ⟨.tup [], (p.and q).and (.p (0 < xs.length ∧ ys.length ≤ xs.length ∧ xs.length < 4294967296)), [i, j], none, [(i, .live (numsAs b (F xs ys)))]⟩
      | _, _, _ => none
    | _, _, _ => none
  | _ => none

theorem SameHE.numsAs {b : Blk} {xs : List UInt64} : SameHE (.live { b with body := .elts .u64 xs }) (.live (numsAs b xs)) := by
  unfold Go.Proofs.Ytchlamfdofpolaa.numsAs
  split
  · exact .inr ⟨_, _, rfl, rfl, fun β => rfl, fun c hc => by
      simp only [Body.cells, List.mem_map] at hc
      obtain ⟨y, _, rfl⟩ := hc
      rfl⟩
  · exact .inl rfl

theorem SameHE.upd {h : Heap} {i : Nat} {x y : HE} (s : SameHE x y) : ∀ k, SameHE (Go.Proofs.Ytchlamfdofpolaa.upd h i x k) (Go.Proofs.Ytchlamfdofpolaa.upd h i y k) := fun k => by
  by_cases e : k = i
  · subst e; rw [upd_same, upd_same]; exact s
  · rw [upd_ne _ _ e, upd_ne _ _ e]; exact .inl rfl

def slW (i : Nat) (xs : List UInt64) : AV := .one (.c (.slc i 0 xs.length 1 (.of 0) false))
/-- The two blocks of a call that writes numbers. -/
def wrHE (ty ty' : TypeId) (xs ys : List UInt64) : List HE := [.live ⟨true, ty, 1, .elts .u64 xs, true⟩, .live ⟨false, ty', 1, .elts .u64 ys, false⟩]

theorem Kwl_ok {E : Env} {f : Nat} {fn : Func} (hf : E.P.funcs[f]? = some fn) {c : Code} (hb : fn.body = some c) (hd : Bodied E.P f) {F : List UInt64 → List UInt64 → List UInt64} (hF : ∀ xs ys, (F xs ys).length = xs.length)
    (run : ∀ ty ty' xs ys, 0 < xs.length → ys.length ≤ xs.length → xs.length < 4294967296 → DoesL E (flat c) (startSt fn [slW 0 xs, slW 1 ys] (wrHE ty ty' xs ys)) (EndsAs E fn (WritesTo ⟨true, ty, 1, .elts .u64 xs, true⟩ (.elts .u64 (F xs ys)) (.tup [])))) :
    CallOk E.P f (Kwl F) where
  call := fun id h args res e hpre w0 β w r hid hok => by
    obtain ⟨fn', h1, h2, h3⟩ := hd.fn
    unfold Kwl at e
    split at e
    · rename_i i len kn j m kn'
      split at e
      · rename_i b d hbi hdj hij
        split at e
        · rename_i p xs q ys ho hx hy
          cases e
          have hp1 := Pr.and_holds hpre
          have hp2 := Pr.and_holds hp1.1
          obtain ⟨g0, g1, g2⟩ : 0 < xs.length ∧ ys.length ≤ xs.length ∧ xs.length < 4294967296 := hp1.2
          obtain ⟨x1, x2, x3, x4⟩ := numsOf_spec hx hp2.1
          obtain ⟨y1, y2, y3, y4⟩ := numsOf_spec hy hp2.2
          simp only at x1 x2 y1 y2
          have hi := liveOf_some hbi
          have hj := liveOf_some hdj
          have hne : i ≠ j := Nat.ne_of_beq_eq_false hij
          -- the blocks as lists
          have lst : ∀ (zs : List UInt64), ∀ c ∈ (Body.elts .u64 zs).cells, c.idOf = none := fun zs c hc => by
            obtain ⟨y, _, e⟩ := List.mem_map.1 (show c ∈ zs.map EK.u64.cell from hc)
            rw [← e]
            rfl
          have sb : SameHE (h i) (.live { b with body := .elts .u64 xs }) := by rw [hi]; exact .inr ⟨_, _, rfl, rfl, x1, lst xs⟩
          have sd : SameHE (h j) (.live { d with body := .elts .u64 ys }) := by rw [hj]; exact .inr ⟨_, _, rfl, rfl, y1, lst ys⟩
          have r2 : HRel w0 β (upd (upd h i (.live { b with body := .elts .u64 xs })) j (.live { d with body := .elts .u64 ys })) w := by
            refine r.sameHE fun k => ?_
            by_cases e1 : k = j
            · subst e1; rw [upd_same]; exact sd
            · rw [upd_ne _ _ e1]
              by_cases e2 : k = i
              · subst e2; rw [upd_same]; exact sb
              · rw [upd_ne _ _ e2]; exact .inl rfl
          have hi2 : upd (upd h i (.live { b with body := .elts .u64 xs })) j (.live { d with body := .elts .u64 ys }) i = .live { b with body := .elts .u64 xs } := by rw [upd_ne _ _ hne, upd_same]
          have hj2 : upd (upd h i (.live { b with body := .elts .u64 xs })) j (.live { d with body := .elts .u64 ys }) j = .live { d with body := .elts .u64 ys } := upd_same _ _ _
          obtain ⟨bo, bt, be, bb, bp⟩ := b
          obtain ⟨dO, dt, de, db, dp⟩ := d
          simp only at ho x3 y3
          subst ho x3 y3
          have hne2 : (Body.elts .u64 xs).cells ≠ [] := by
            intro e0
            cases xs with
            | nil => simp at g0
            | cons a l => cases e0
          have run' := run bt dt xs ys g0 g1 g2
          have hcall := calls_writes hf hb r2 hi2 rfl hj2 hne (lst xs) (lst ys) hne2 (avs := [slW 0 xs, slW 1 ys]) (fun v hv => by
            simp only [List.mem_cons, List.not_mem_nil, or_false] at hv
            rcases hv with rfl | rfl
            · intro k hk; cases hk; show hpS (twoHE _ _) 0 ≠ .un; intro e; cases e
            · intro k hk; cases hk; show hpS (twoHE _ _) 1 ≠ .un; intro e; cases e) (lst (F xs ys)) (rv := .tup []) (fun _ _ _ => rfl) run'
          refine .inr ⟨?_, ?_⟩
          · have h4 : fn'.name ≠ "runtime.NumGoroutine" := by simpa using h3
            simp [callFunc, h1, h4]
            intro e
            rw [e] at h2
            cases h2
          · have hargs : ([AV.one (.c (.slc i 0 len 1 (.of 0) kn)), AV.one (.c (.slc j 0 m 1 (.of 0) kn'))].map (gv β)).toArray = ([slW 0 xs, slW 1 ys].map (gv (plOf β [i, j]))).toArray := by
              have a1 : gv β (AV.one (.c (.slc i 0 len 1 (.of 0) kn))) = gv (plOf β [i, j]) (slW 0 xs) := by rw [x2]; rfl
              have a2 : gv β (AV.one (.c (.slc j 0 m 1 (.of 0) kn'))) = gv (plOf β [i, j]) (slW 1 ys) := by rw [y2]; rfl
              simp only [List.map_cons, List.map_nil, a1, a2]
            rw [hargs]
            refine Calls.mono hcall fun e w' ⟨he, hr'⟩ => ⟨_, he, ?_⟩
            have hr2 : HRel w0 β (upd h i (.live (numsAs ⟨true, bt, 1, bb, bp⟩ (F xs ys)))) w' := by
              refine hr'.sameHE fun k => ?_
              by_cases e2 : k = i
              · subst e2
                rw [upd_same, upd_same]
                exact SameHE.numsAs (b := ⟨true, bt, 1, bb, bp⟩) (xs := F xs ys)
              · rw [upd_ne _ _ e2, upd_ne _ _ e2]
                by_cases e1 : k = j
                · subst e1
                  rw [upd_same, hj]
                  refine .inr ⟨_, db, rfl, rfl, fun β => (y1 β).symm, y4⟩
                · rw [upd_ne _ _ e1, upd_ne _ _ e2]; exact .inl rfl
            exact EffOk.same (val := .tup []) hr2 (fun v hv => by cases hv)
        · cases e
      · cases e
    · cases e
  near := fun id h h' args res e H => by
    unfold Kwl at e ⊢
    split at e
    · rename_i i len kn j m kn'
      split at e
      · rename_i b d hbi hdj hij
        have hr : res.reads = [i, j] := by
          split at e
          · cases e; rfl
          · cases e
        rw [hr] at H
        have hb' : liveOf h' i = some b := by rw [← liveOf_congr (H i (by simp))]; exact hbi
        have hd' : liveOf h' j = some d := by rw [← liveOf_congr (H j (by simp))]; exact hdj
        simp only [hb', hd', hij]
        exact e
      · cases e
    · cases e
  wrote := fun id h args res e => by
    unfold Kwl at e
    split at e
    · split at e
      · rename_i b d hbi hdj hij
        split at e
        · cases e
          intro p hp
          simp only [List.mem_singleton] at hp
          subst hp
          exact ⟨by simp, by rw [liveOf_some hbi]; simp⟩
        · cases e
      · cases e
    · cases e

end Go.Proofs.Ytchlamfdofpolaa

/- The engine, part z: what a function gives, at given arguments. -/
set_option linter.unusedSimpArgs false
set_option linter.unusedVariables false
namespace Go.Proofs.Ytchlamfdofpolaa
open Go.RowKit

theorem G1g {α ρ : Type} {E : Env} {f : FuncId} {fn : Func} (hf : E.P.funcs[f]? = some fn) {c : Code} (hb : fn.body = some c) (a : Inp α) (o : Out ρ) (F : ρ) {w : World} {v : Value} {x : α} (hv : a.arg.is w v x)
    (h : a.fact x → DoesL E (flat c) (startSt fn [a.av 0 x] (a.hes x)) (EndsAs E fn (Reads o F))) : Gives E.P f #[v] w o.res F := by
  obtain ⟨β1, r1, e1, k1, _⟩ := a.intro (heap := []) (HRel.start w β0) (W0.of_fresh w) hv
  simp only [List.nil_append, List.length_nil] at r1 e1 k1
  have := gives_ends hf hb r1 (avs := [a.av 0 x]) (by simpa using k1) (h (a.known hv))
  simpa only [List.map_cons, List.map_nil, e1] using this

theorem G2g {α γ ρ : Type} {E : Env} {f : FuncId} {fn : Func} (hf : E.P.funcs[f]? = some fn) {c : Code} (hb : fn.body = some c) (a : Inp α) (b : Inp γ) (o : Out ρ) (F : ρ) {w : World} {v u : Value} {x : α} {y : γ} (hv : a.arg.is w v x) (hu : b.arg.is w u y)
    (h : a.fact x → b.fact y → DoesL E (flat c) (startSt fn [a.av 0 x, b.av (a.hes x).length y] (a.hes x ++ b.hes y)) (EndsAs E fn (Reads o F))) : Gives E.P f #[v, u] w o.res F := by
  obtain ⟨β1, r1, e1, k1, _⟩ := a.intro (heap := []) (HRel.start w β0) (W0.of_fresh w) hv
  simp only [List.nil_append, List.length_nil] at r1 e1 k1
  obtain ⟨β2, r2, e2, k2, g2⟩ := b.intro r1 (W0.of_fresh w) hu
  have k1' := k1.grow (grows_append (a.hes x) (b.hes y))
  have e1' : gv β2 (a.av 0 x) = v := by rw [gv_agree g2 k1, e1]
  have := gives_ends hf hb r2 (avs := [a.av 0 x, b.av (a.hes x).length y]) (by
    intro v hv
    simp only [List.mem_cons, List.not_mem_nil, or_false] at hv
    rcases hv with rfl | rfl
    · exact k1'
    · exact k2) (h (a.known hv) (b.known hu))
  simpa only [List.map_cons, List.map_nil, e1', e2] using this

theorem G3g {α γ δ ρ : Type} {E : Env} {f : FuncId} {fn : Func} (hf : E.P.funcs[f]? = some fn) {c : Code} (hb : fn.body = some c) (a : Inp α) (b : Inp γ) (d : Inp δ) (o : Out ρ) (F : ρ) {w : World} {v u t : Value} {x : α} {y : γ} {z : δ} (hv : a.arg.is w v x) (hu : b.arg.is w u y) (ht : d.arg.is w t z)
    (h : a.fact x → b.fact y → d.fact z → DoesL E (flat c) (startSt fn [a.av 0 x, b.av (a.hes x).length y, d.av (a.hes x ++ b.hes y).length z] (a.hes x ++ b.hes y ++ d.hes z)) (EndsAs E fn (Reads o F))) : Gives E.P f #[v, u, t] w o.res F := by
  obtain ⟨β1, r1, e1, k1, _⟩ := a.intro (heap := []) (HRel.start w β0) (W0.of_fresh w) hv
  simp only [List.nil_append, List.length_nil] at r1 e1 k1
  obtain ⟨β2, r2, e2, k2, g2⟩ := b.intro r1 (W0.of_fresh w) hu
  have k1' := k1.grow (grows_append (a.hes x) (b.hes y))
  have e1' : gv β2 (a.av 0 x) = v := by rw [gv_agree g2 k1, e1]
  obtain ⟨β3, r3, e3, k3, g3⟩ := d.intro r2 (W0.of_fresh w) ht
  have k1'' := k1'.grow (grows_append _ (d.hes z))
  have k2'' := k2.grow (grows_append _ (d.hes z))
  have e1'' : gv β3 (a.av 0 x) = v := by rw [gv_agree g3 k1', e1']
  have e2'' : gv β3 (b.av (a.hes x).length y) = u := by rw [gv_agree g3 k2, e2]
  have := gives_ends hf hb r3 (avs := [a.av 0 x, b.av (a.hes x).length y, d.av (a.hes x ++ b.hes y).length z]) (by
    intro v hv
    simp only [List.mem_cons, List.not_mem_nil, or_false] at hv
    rcases hv with rfl | rfl | rfl
    · exact k1''
    · exact k2''
    · exact k3) (h (a.known hv) (b.known hu) (d.known ht))
  simpa only [List.map_cons, List.map_nil, e1'', e2'', e3] using this

/-! ## answers of laws -/

/-- What a law answers, with its conditions passed. -/
def Tree.evalV : Tree (Option (Bool × Pr)) → Bool
  | .leaf (some (b, .t)) => b
  | .br b x y => match b with | true => x.evalV | false => y.evalV
  | .vc _ x => x.evalV
  | _ => false

/-- The conditions on the way. -/
def Tree.vcAll {α : Type} : Tree α → Prop
  | .br b x y => (b = true → x.vcAll) ∧ (b = false → y.vcAll)
  | .vc p x => p ∧ x.vcAll
  | _ => True

theorem Tree.law_sat : ∀ {x : Tree (Option (Bool × Pr))}, x.evalV = true → x.vcAll → x.sat fun q => ∃ p, q = some (true, p) ∧ p.holds
  | .leaf none, h, _ => by cases h
  | .leaf (some (b, .t)), h, _ => by
    have h' : b = true := h
    exact ⟨.t, by rw [h'], trivial⟩
  | .leaf (some (b, .p _)), h, _ => by cases h
  | .br b x y, h, g => by
    refine ⟨fun e => ?_, fun e => ?_⟩
    · subst e; exact Tree.law_sat (x := x) h (g.1 rfl)
    · subst e; exact Tree.law_sat (x := y) h (g.2 rfl)
  | .vc p x, h, g => ⟨g.1, fun _ => Tree.law_sat (x := x) h g.2⟩
  | .fail, h, _ => by cases h

end Go.Proofs.Ytchlamfdofpolaa
