/- The executor, part n: a region, also in whatever order its edges allow. -/
import Derived.Test.YtfkmooldindfjaaEm
import Derived.Orders
set_option linter.unusedSimpArgs false
set_option linter.unusedVariables false
namespace Go.Proofs.Ytfkmooldindfjaa
open Go.RowKit

theorem Shape.ids {E : Env} {L : Nat} : ∀ {rest : List Oper} {j id : Nat} {ents : List Ent}, Shape E L rest j id ents → id + countTakes E rest ≤ L →
    (∀ x ∈ ents, (takes E x.o = true → id ≤ x.id ∧ x.id < L) ∧ (takes E x.o = false → x.id = L)) ∧
      ents.Pairwise fun x y => (takes E x.o = true → x.id ≠ y.id) ∧ (takes E y.o = true → y.id ≠ x.id)
  | [], j, id, ents, h, _ => by
    simp only [Shape] at h
    subst h
    simp
  | o :: rest, j, id, ents, h, hL => by
    cases ents with
    | nil => exact h.elim
    | cons x ents =>
      obtain ⟨rfl, h2, h3, h4⟩ := h
      simp only [countTakes] at hL
      cases ht : takes E x.o with
      | true =>
        simp only [ht] at hL
        have hid : x.id = id := by rw [h3]; simp [myId, ht]
        have hb : bumpId E x.o id = id + 1 := by simp [bumpId, ht]
        rw [hb] at h4
        obtain ⟨i1, i2⟩ := Shape.ids h4 (by omega)
        refine ⟨fun y hy => ?_, List.pairwise_cons.2 ⟨fun y hy => ?_, i2⟩⟩
        · rcases List.mem_cons.1 hy with rfl | hy
          · exact ⟨fun _ => ⟨by omega, by omega⟩, fun e => by rw [ht] at e; cases e⟩
          · exact ⟨fun e => ⟨by have := (i1 y hy).1 e; omega, ((i1 y hy).1 e).2⟩, (i1 y hy).2⟩
        · have hy' := i1 y hy
          cases hty : takes E y.o with
          | true => have := hy'.1 hty; exact ⟨fun _ => by omega, fun _ => by omega⟩
          | false => have := hy'.2 hty; exact ⟨fun _ => by omega, (fun e => absurd e (by simp))⟩
      | false =>
        simp only [ht] at hL
        have hid : x.id = L := by rw [h3]; simp [myId, ht]
        have hb : bumpId E x.o id = id := by simp [bumpId, ht]
        rw [hb] at h4
        obtain ⟨i1, i2⟩ := Shape.ids h4 hL
        refine ⟨fun y hy => ?_, List.pairwise_cons.2 ⟨fun y hy => ?_, i2⟩⟩
        · rcases List.mem_cons.1 hy with rfl | hy
          · exact ⟨(fun e => by rw [ht] at e; cases e), fun _ => hid⟩
          · exact i1 y hy
        · have hy' := i1 y hy
          exact ⟨(fun e => by rw [ht] at e; cases e), fun e => by have := hy'.1 e; omega⟩

theorem Shape.at {E : Env} {L : Nat} : ∀ {rest : List Oper} {j id : Nat} {ents : List Ent}, Shape E L rest j id ents → ents.map (·.j) = List.range' j rest.length ∧ ∀ x ∈ ents, j ≤ x.j ∧ rest[x.j - j]? = some x.o
  | [], j, id, ents, h => by
    simp only [Shape] at h
    subst h
    simp
  | o :: rest, j, id, ents, h => by
    cases ents with
    | nil => exact h.elim
    | cons x ents =>
      obtain ⟨rfl, h2, h3, h4⟩ := h
      obtain ⟨i1, i2⟩ := Shape.at h4
      refine ⟨by simp [i1, h2, List.range'_succ], fun y hy => ?_⟩
      rcases List.mem_cons.1 hy with rfl | hy
      · rw [h2]; simp
      · obtain ⟨q1, q2⟩ := i2 y hy
        refine ⟨by omega, ?_⟩
        rw [show y.j - j = (y.j - (j + 1)) + 1 by omega]
        simpa using q2

def Fresh (E : Env) (ents : List Ent) (heap : List HE) : Prop := ∀ x ∈ ents, hpS heap x.id = .un ∧ (takes E x.o = true → x.id < heap.length)

theorem applyOut_heap (o : Oper) (st : St) (out : Option Eff) : (applyOut o st out).heap = setL st.heap (match out with | some e => e.wr | none => []) := by cases out <;> rfl

theorem hpS_setL_ne : ∀ (wr : List (Nat × HE)) (heap : List HE) (i : Nat), (∀ p ∈ wr, p.1 ≠ i) → hpS (setL heap wr) i = hpS heap i
  | [], _, _, _ => rfl
  | (j, x) :: rest, heap, i, H => by
    simp only [setL]
    rw [hpS_setL_ne rest _ i (fun p hp => H p (by simp [hp]))]
    have hne : j ≠ i := H (j, x) (by simp)
    rw [hpS_get, hpS_get, setN_set, List.getElem?_set_ne hne]

theorem Fresh.step {E : Env} {ops : List Oper} {x : Ent} {ents : List Ent} {st : St} (hs : Step1 E ops x.id x.o st x.out) (hf : Fresh E ents st.heap) (hne : ∀ y ∈ ents, takes E x.o = true → x.id ≠ y.id) :
    Fresh E ents (applyOut x.o st x.out).heap := by
  intro y hy
  obtain ⟨h1, h2⟩ := hf y hy
  rw [applyOut_heap]
  cases hx : x.out with
  | none => exact ⟨h1, h2⟩
  | some e =>
    rw [hx] at hs
    obtain ⟨_, _, v, hact, _⟩ := hs
    have hwr := act_wr hact
    refine ⟨?_, fun ht => by rw [setL_length]; exact h2 ht⟩
    rw [hpS_setL_ne _ _ _ fun p hp => ?_]
    · exact h1
    · rcases (hwr p hp).2 with ⟨q1, q2⟩ | q1
      · rw [q1]; exact hne y hy q2
      · intro e2; rw [e2] at q1; exact q1 h1

theorem seq_sound {E : Env} (hE : EnvOk E) {ops : List Oper} {Q : Exit → Act → World → Prop} {w0 : World} {st' : St} (hQ : ∀ a w, SRel w0 st' a w → Q .normal a w) :
    ∀ (ents : List Ent) (st : St) (a : Act) (w : World), SRel w0 st a w → Runs E ops ents st st' → Fresh E ents st.heap → (ents.Pairwise fun x y => (takes E x.o = true → x.id ≠ y.id) ∧ (takes E y.o = true → y.id ≠ x.id)) →
      (∀ x ∈ ents, ops[x.j]? = some x.o) → wpOps E.P ops.toArray Q (ents.map (·.j)) a w
  | [], st, a, w, r, h, _, _, _ => by
    cases h
    exact hQ a w r
  | x :: ents, st, a, w, r, h, hf, hp, ho => by
    obtain ⟨h1, h2⟩ := h
    obtain ⟨p1, p2⟩ := List.pairwise_cons.1 hp
    rw [List.map_cons, wpOps_cons]
    have hx := hf x (by simp)
    refine step_sound hE r (ho x (by simp)) hx.1 hx.2 h1 fun a' w' r' => ?_
    refine seq_sound hE hQ ents _ a' w' r' h2 ?_ p2 (fun y hy => ho y (by simp [hy]))
    exact Fresh.step h1 (fun y hy => hf y (by simp [hy])) fun y hy => (p1 y hy).1

theorem unNamed_length : ∀ n, (unNamed n).length = n
  | 0 => rfl
  | n + 1 => by simp [unNamed, unNamed_length n]

theorem unNamed_get : ∀ (n i : Nat), (unNamed n)[i]?.getD HE.un = HE.un
  | 0, i => by simp [unNamed]
  | n + 1, 0 => by simp [unNamed]
  | n + 1, i + 1 => by simpa [unNamed] using unNamed_get n i

theorem hpS_append (heap : List HE) (n : Nat) : hpS (heap ++ unNamed n) = hpS heap := by
  funext i
  rw [hpS_get, hpS_get, List.getElem?_append]
  by_cases h : i < heap.length
  · rw [if_pos h]
  · rw [if_neg h, unNamed_get, List.getElem?_eq_none (Nat.le_of_not_lt h)]
    rfl

theorem Shape.fresh {E : Env} {ops : List Oper} {heap : List HE} {ents : List Ent} (h : Shape E (heap.length + countTakes E ops) ops 0 heap.length ents) : Fresh E ents (heap ++ unNamed (countTakes E ops)) := by
  obtain ⟨i1, _⟩ := h.ids (Nat.le_refl _)
  intro x hx
  rw [hpS_append]
  have hn : heap.length ≤ x.id → hpS heap x.id = .un := fun hle => by rw [hpS_get, List.getElem?_eq_none hle]; rfl
  cases ht : takes E x.o with
  | true =>
    obtain ⟨q1, q2⟩ := (i1 x hx).1 ht
    exact ⟨hn q1, fun _ => by simp [unNamed_length]; omega⟩
  | false =>
    have := (i1 x hx).2 ht
    exact ⟨hn (by omega), fun e => by cases e⟩

/-! ## any order -/

/-- i stands ahead of j by binding edges. -/
inductive Ahead (ops : List Oper) : Nat → Nat → Prop where
  | edge {i j : Nat} {o : Oper} {e : Edge} (h : ops[j]? = some o) (he : e ∈ o.after) (hb : Region.binds .any e = true) (hi : e.on = i) : Ahead ops i j
  | step {i k j : Nat} {o : Oper} {e : Edge} (h : ops[j]? = some o) (he : e ∈ o.after) (hb : Region.binds .any e = true) (hk : e.on = k) (hr : Ahead ops i k) : Ahead ops i j

/-- Two steps that do not touch what the other looks at. -/
def Indep (ops : List Oper) (x y : Ent) : Prop := x.o.apart ops.toArray y.o = true ∧ footApart (footOf x.out) (footOf y.out) = true

theorem meets_spec {xs ys : List Nat} (h : meets xs ys = false) : ∀ x ∈ xs, ∀ y ∈ ys, x ≠ y := by
  intro x hx y hy e
  subst e
  have : meets xs ys = true := by
    unfold meets
    rw [List.any_eq_true]
    exact ⟨x, hx, by rw [List.any_eq_true]; exact ⟨x, hy, by simp⟩⟩
  rw [h] at this
  cases this

theorem footApart_spec {a b : Foot} (h : footApart a b = true) : (∀ x ∈ a.2, ∀ y ∈ b.1, x ≠ y) ∧ (∀ x ∈ a.2, ∀ y ∈ b.2, x ≠ y) ∧ (∀ x ∈ a.1, ∀ y ∈ b.2, x ≠ y) := by
  simp only [footApart, Bool.not_eq_true', Bool.or_eq_false_iff] at h
  exact ⟨meets_spec h.1.1, meets_spec h.1.2, meets_spec h.2⟩

theorem nth_setN_ne {α : Type} (xs : List α) {i j : Nat} (y : α) (h : i ≠ j) : nth (setN xs i y) j = nth xs j := by
  rw [nth_get, nth_get, setN_set, List.getElem?_set_ne h]

theorem putT_get_ne (tmps : Tm) {d t : Nat} (v : AV) (h : d ≠ t) : (putT tmps (some d) v).tr.get t = tmps.tr.get t := by
  simp only [putT]
  split
  · rw [Tr.get_set, if_neg (Ne.symm h)]
  · rfl

theorem evS_put {tmps : Tm} {dst : Option Tmp} {v : AV} {x : Operand} (h : ∀ d, dst = some d → x ≠ .tmp d) : evS (putT tmps dst v) x = evS tmps x := by
  cases dst with
  | none => rfl
  | some d =>
    cases x with
    | tmp t =>
      have : d ≠ t := fun e => h d rfl (by rw [e])
      exact putT_get_ne _ _ this
    | _ => rfl

theorem applyOut_tmps (o : Oper) (st : St) (out : Option Eff) : (applyOut o st out).tmps = putT st.tmps o.dst (match out with | some e => e.val | none => AV.undef) := by cases out <;> rfl

theorem guardC_put {ops : List Oper} {tmps : Tm} {dst : Option Tmp} {v : AV} {j : Nat} (h : ∀ d, dst = some d → ((ops.toArray[j]?).bind (·.dst)) ≠ some d) : guardC ops (putT tmps dst v) j = guardC ops tmps j := by
  unfold guardC
  rw [nth_get]
  cases hj : ops[j]? with
  | none => rfl
  | some o =>
    simp only []
    cases hd : o.dst with
    | none => rfl
    | some t =>
      simp only []
      cases dst with
      | none => rfl
      | some d =>
        have hne : d ≠ t := fun e => h d rfl (by
          have : ops.toArray[j]? = some o := by simpa using hj
          rw [this]; simp [hd, e])
        rw [putT_get_ne _ _ hne]

theorem wantedC_put {ops : List Oper} {tmps : Tm} {dst : Option Tmp} {v : AV} {o : Oper} (h : ∀ d, dst = some d → d ∉ o.looksAt ops.toArray) : wantedC ops (putT tmps dst v) o = wantedC ops tmps o := by
  unfold wantedC
  cases hg : o.guard with
  | none => rfl
  | some gw =>
    obtain ⟨g, want⟩ := gw
    simp only []
    rw [guardC_put fun d hd e => h d hd (by
      simp only [Oper.looksAt, hg, List.mem_append]
      right
      rw [e]
      simp)]

/-- A step that was done behind an independent one can be done ahead of it. -/
theorem Step1.back {E : Env} (hE : EnvOk E) {ops : List Oper} {x y : Ent} {st : St} (h1 : ∀ d, y.o.dst = some d → d ∉ x.o.looksAt ops.toArray) (h2 : ∀ p ∈ (footOf y.out).2, ∀ q ∈ (footOf x.out).1, p ≠ q)
    (hx : Step1 E ops x.id x.o (applyOut y.o st y.out) x.out) : Step1 E ops x.id x.o st x.out := by
  have hev : ∀ z ∈ x.o.op.operands.toList, evS (applyOut y.o st y.out).tmps z = evS st.tmps z := by
    intro z hz
    rw [applyOut_tmps]
    refine evS_put fun d hd e => h1 d hd ?_
    subst e
    exact List.mem_append_left _ (List.mem_filterMap.2 ⟨.tmp d, by simpa using hz, rfl⟩)
  have hw : wantedC ops (applyOut y.o st y.out).tmps x.o = wantedC ops st.tmps x.o := by rw [applyOut_tmps]; exact wantedC_put h1
  cases hxo : x.out with
  | none =>
    rw [hxo] at hx
    show wantedC ops st.tmps x.o = some false
    rw [← hw]
    exact hx
  | some e =>
    rw [hxo] at hx
    obtain ⟨q1, q2, v, q3, q4⟩ := hx
    refine ⟨by rw [← hw]; exact q1, q2, v, ?_, q4⟩
    rw [act_ev hev] at q3
    refine act_near hE q3 fun i hi => ?_
    rw [applyOut_heap]
    refine hpS_setL_ne _ _ _ fun p hp => ?_
    have hfi : i ∈ (footOf x.out).1 := by rw [hxo]; exact hi
    refine h2 p.1 ?_ i hfi
    cases hyo : y.out with
    | none => rw [hyo] at hp; cases hp
    | some e' => rw [hyo] at hp; exact List.mem_map_of_mem hp

theorem Step1.fore {E : Env} (hE : EnvOk E) {ops : List Oper} {x y : Ent} {st : St} (h1 : ∀ d, x.o.dst = some d → d ∉ y.o.looksAt ops.toArray) (h2 : ∀ p ∈ (footOf x.out).2, ∀ q ∈ (footOf y.out).1, p ≠ q)
    (hy : Step1 E ops y.id y.o st y.out) : Step1 E ops y.id y.o (applyOut x.o st x.out) y.out := by
  have hev : ∀ z ∈ y.o.op.operands.toList, evS st.tmps z = evS (applyOut x.o st x.out).tmps z := by
    intro z hz
    rw [applyOut_tmps]
    refine (evS_put fun d hd e => h1 d hd ?_).symm
    subst e
    exact List.mem_append_left _ (List.mem_filterMap.2 ⟨.tmp d, by simpa using hz, rfl⟩)
  have hw : wantedC ops (applyOut x.o st x.out).tmps y.o = wantedC ops st.tmps y.o := by rw [applyOut_tmps]; exact wantedC_put h1
  cases hyo : y.out with
  | none =>
    rw [hyo] at hy
    show wantedC ops _ y.o = some false
    rw [hw]
    exact hy
  | some e =>
    rw [hyo] at hy
    obtain ⟨q1, q2, v, q3, q4⟩ := hy
    refine ⟨by rw [hw]; exact q1, q2, v, ?_, q4⟩
    rw [act_ev hev] at q3
    refine act_near hE q3 fun i hi => ?_
    rw [applyOut_heap]
    refine (hpS_setL_ne _ _ _ fun p hp => ?_).symm
    have hfi : i ∈ (footOf y.out).1 := by rw [hyo]; exact hi
    refine h2 p.1 ?_ i hfi
    cases hxo : x.out with
    | none => rw [hxo] at hp; cases hp
    | some e' => rw [hxo] at hp; exact List.mem_map_of_mem hp

theorem setN_comm {α : Type} (xs : List α) {i j : Nat} (a b : α) (h : i ≠ j) : setN (setN xs i a) j b = setN (setN xs j b) i a := by
  simp only [setN_set]; exact List.set_comm _ _ h

theorem putT_comm (tmps : Tm) {x y : Option Tmp} (a b : AV) (h : ∀ d, x = some d → y ≠ some d) : putT (putT tmps x a) y b = putT (putT tmps y b) x a := by
  cases x with
  | none => rfl
  | some d =>
    cases y with
    | none => rfl
    | some e =>
      have hne : d ≠ e := fun he => h d rfl (by rw [he])
      simp only [putT, Tm.mk.injEq, true_and]
      split <;> split <;> first | rfl | exact Tr.set_comm _ _ _ hne

theorem setL_setN_comm : ∀ (wr : List (Nat × HE)) (heap : List HE) (i : Nat) (x : HE), (∀ p ∈ wr, p.1 ≠ i) → setL (setN heap i x) wr = setN (setL heap wr) i x
  | [], _, _, _, _ => rfl
  | (j, y) :: rest, heap, i, x, H => by
    simp only [setL]
    rw [setN_comm _ _ _ (Ne.symm (H (j, y) (by simp)))]
    exact setL_setN_comm rest _ i x fun p hp => H p (by simp [hp])

theorem setL_comm : ∀ (a b : List (Nat × HE)) (heap : List HE), (∀ p ∈ a, ∀ q ∈ b, p.1 ≠ q.1) → setL (setL heap a) b = setL (setL heap b) a
  | [], b, heap, _ => rfl
  | (i, x) :: a, b, heap, H => by
    simp only [setL]
    rw [setL_comm a b _ (fun p hp q hq => H p (by simp [hp]) q hq)]
    rw [setL_setN_comm b heap i x fun q hq => Ne.symm (H (i, x) (by simp) q hq)]

theorem applyOut_comm {x y : Ent} (st : St) (h1 : ∀ d, x.o.dst = some d → y.o.dst ≠ some d) (h2 : ∀ p ∈ (footOf x.out).2, ∀ q ∈ (footOf y.out).2, p ≠ q) :
    applyOut y.o (applyOut x.o st x.out) y.out = applyOut x.o (applyOut y.o st y.out) x.out := by
  have e1 : ∀ (o : Oper) (st : St) (out : Option Eff), applyOut o st out = ⟨putT st.tmps o.dst (match out with | some e => e.val | none => AV.undef), setL st.heap (match out with | some e => e.wr | none => [])⟩ := by
    intro o st out; cases out <;> rfl
  rw [e1, e1 x.o st, e1 x.o, e1 y.o st]
  simp only [St.mk.injEq]
  refine ⟨putT_comm _ _ _ h1, setL_comm _ _ _ fun p hp q hq => ?_⟩
  refine h2 p.1 ?_ q.1 ?_
  · cases hx : x.out with
    | none => rw [hx] at hp; cases hp
    | some e => rw [hx] at hp; exact List.mem_map_of_mem hp
  · cases hy : y.out with
    | none => rw [hy] at hq; cases hq
    | some e => rw [hy] at hq; exact List.mem_map_of_mem hq

/-- A step that is independent of all ahead of it can be done first. -/
theorem Runs.first {E : Env} (hE : EnvOk E) {ops : List Oper} {x : Ent} {p2 : List Ent} {st' : St} : ∀ (p1 : List Ent) (st : St), (∀ y ∈ p1, Indep ops y x) → Runs E ops (p1 ++ x :: p2) st st' →
    Step1 E ops x.id x.o st x.out ∧ Runs E ops (p1 ++ p2) (applyOut x.o st x.out) st'
  | [], st, _, h => h
  | y :: p1, st, hi, h => by
    obtain ⟨hy, hr⟩ := h
    obtain ⟨i1, i2⟩ := hi y (by simp)
    obtain ⟨a1, a2, a3⟩ := Oper.apart_spec i1
    obtain ⟨f1, f2, f3⟩ := footApart_spec i2
    obtain ⟨hx, hr'⟩ := Runs.first hE p1 _ (fun z hz => hi z (by simp [hz])) hr
    have hx' := Step1.back hE a1 f1 hx
    refine ⟨hx', Step1.fore hE a3 (fun p hp q hq => Ne.symm (f3 q hq p hp)) hy, ?_⟩
    rw [← applyOut_comm (x := y) (y := x) st a2 f2]
    exact hr'

end Go.Proofs.Ytfkmooldindfjaa
