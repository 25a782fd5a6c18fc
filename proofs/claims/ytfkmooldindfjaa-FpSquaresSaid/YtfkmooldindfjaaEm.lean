/- The executor, part m: the operations of a region, in the order of the text. -/
import Derived.Test.YtfkmooldindfjaaEl
set_option linter.unusedSimpArgs false
set_option linter.unusedVariables false
namespace Go.Proofs.Ytfkmooldindfjaa
open Go.RowKit

theorem setN_set {α : Type} : ∀ (xs : List α) (i : Nat) (y : α), setN xs i y = xs.set i y
  | [], _, _ => rfl
  | x :: xs, 0, y => rfl
  | x :: xs, i + 1, y => by simp [setN, setN_set xs i y]

theorem setN_length {α : Type} (xs : List α) (i : Nat) (y : α) : (setN xs i y).length = xs.length := by rw [setN_set]; simp

theorem hpS_get (heap : List HE) (i : Nat) : hpS heap i = (heap[i]?).getD .un := by
  unfold hpS
  rw [nth_get]
  cases heap[i]? <;> rfl

theorem hpS_set (heap : List HE) {i : Nat} (x : HE) (h : i < heap.length) : hpS (setN heap i x) = upd (hpS heap) i x := by
  funext j
  rw [hpS_get, setN_set, List.getElem?_set]
  by_cases e : i = j
  · subst e
    simp [h, upd_same]
  · rw [if_neg e, upd_ne _ _ (Ne.symm e), hpS_get]

theorem hpS_setL : ∀ (wr : List (Nat × HE)) (heap : List HE), (∀ p ∈ wr, p.1 < heap.length) → hpS (setL heap wr) = updL (hpS heap) wr
  | [], heap, _ => rfl
  | (i, x) :: rest, heap, h => by
    have h1 := h (i, x) (by simp)
    simp only [setL, updL]
    rw [hpS_setL rest _ (fun p hp => by rw [setN_length]; exact h p (by simp [hp])), hpS_set heap x h1]

theorem setL_length : ∀ (wr : List (Nat × HE)) (heap : List HE), (setL heap wr).length = heap.length
  | [], _ => rfl
  | (i, x) :: rest, heap => by simp only [setL, setL_length rest, setN_length]

theorem hpS_lt {heap : List HE} {i : Nat} (h : hpS heap i ≠ .un) : i < heap.length := by
  rcases Nat.lt_or_ge i heap.length with h1 | h1
  · exact h1
  · rw [hpS_get, List.getElem?_eq_none h1] at h
    exact absurd rfl h

theorem updL_ne : ∀ (wr : List (Nat × HE)) (h : Heap) (i : Nat), (∀ p ∈ wr, p.1 ≠ i) → updL h wr i = h i
  | [], _, _, _ => rfl
  | (j, x) :: rest, h, i, H => by
    simp only [updL]
    rw [updL_ne rest _ i (fun p hp => H p (by simp [hp])), upd_ne _ _ (Ne.symm (H (j, x) (by simp)))]

theorem updL_grows : ∀ (wr : List (Nat × HE)) (h : Heap), (∀ p ∈ wr, p.2 ≠ .un) → Grows h (updL h wr)
  | [], h, _ => Grows.refl h
  | (i, x) :: rest, h, H => (Grows.upd h i (H (i, x) (by simp))).trans (updL_grows rest _ fun p hp => H p (by simp [hp]))

/-! the map -/

theorem Tr.get_zero (t : Tr) : t.get 0 = t.val := by cases t <;> rfl
theorem Tr.get_succ (t : Tr) (k : Nat) : t.get (k + 1) = match Nat.beq (k % 2) 0 with | true => t.lf.get (k / 2) | false => t.rt.get (k / 2) := by
  cases t with
  | nil => simp only [Tr.get, Tr.lf, Tr.rt]; split <;> rfl
  | nd v l r => rfl

theorem Tr.get_setF : ∀ (n : Nat) (t : Tr) (k j : Nat) (x : AV), k ≤ n → (Tr.setF n t k x).get j = if j = k then some x else t.get j := by
  intro n
  induction n with
  | zero =>
    intro t k j x h
    obtain rfl : k = 0 := by omega
    cases j with
    | zero => rfl
    | succ j => rw [if_neg (by omega), Tr.get_succ, Tr.get_succ]; rfl
  | succ n ih =>
    intro t k j x h
    cases k with
    | zero =>
      cases j with
      | zero => rfl
      | succ j => rw [if_neg (by omega), Tr.get_succ, Tr.get_succ]; rfl
    | succ k =>
      cases j with
      | zero =>
        rw [if_neg (by omega), Tr.get_zero, Tr.get_zero]
        simp only [Tr.setF]
        split <;> rfl
      | succ j =>
        rw [Tr.get_succ, Tr.get_succ]
        simp only [Tr.setF]
        cases hk : Nat.beq (k % 2) 0 with
        | true =>
          have hk' := Nat.eq_of_beq_eq_true hk
          simp only [Tr.lf, Tr.rt]
          cases hj : Nat.beq (j % 2) 0 with
          | true =>
            have hj' := Nat.eq_of_beq_eq_true hj
            simp only []
            rw [ih _ _ _ _ (by omega)]
            by_cases e : j / 2 = k / 2
            · rw [if_pos e, if_pos (by omega)]
            · rw [if_neg e, if_neg (by omega)]
          | false =>
            have hj' := Nat.ne_of_beq_eq_false hj
            rw [if_neg (by omega)]
        | false =>
          have hk' := Nat.ne_of_beq_eq_false hk
          simp only [Tr.lf, Tr.rt]
          cases hj : Nat.beq (j % 2) 0 with
          | false =>
            have hj' := Nat.ne_of_beq_eq_false hj
            simp only []
            rw [ih _ _ _ _ (by omega)]
            by_cases e : j / 2 = k / 2
            · rw [if_pos e, if_pos (by omega)]
            · rw [if_neg e, if_neg (by omega)]
          | true =>
            have hj' := Nat.eq_of_beq_eq_true hj
            rw [if_neg (by omega)]

theorem Tr.get_set (t : Tr) (k j : Nat) (x : AV) : (t.set k x).get j = if j = k then some x else t.get j := Tr.get_setF k t k j x (Nat.le_refl _)

theorem Tr.setF_comm : ∀ (m n : Nat) (t : Tr) (i j : Nat) (a b : AV), i ≤ m → j ≤ n → i ≠ j → Tr.setF n (Tr.setF m t i a) j b = Tr.setF m (Tr.setF n t j b) i a := by
  intro m
  induction m with
  | zero =>
    intro n t i j a b hi hj hne
    obtain rfl : i = 0 := by omega
    cases n with
    | zero => omega
    | succ n =>
      cases j with
      | zero => omega
      | succ j => simp only [Tr.setF]; split <;> rfl
  | succ m ih =>
    intro n t i j a b hi hj hne
    cases i with
    | zero =>
      cases n with
      | zero => omega
      | succ n =>
        cases j with
        | zero => omega
        | succ j => simp only [Tr.setF]; split <;> rfl
    | succ i =>
      cases n with
      | zero =>
        obtain rfl : j = 0 := by omega
        simp only [Tr.setF]; split <;> rfl
      | succ n =>
        cases j with
        | zero => simp only [Tr.setF]; split <;> rfl
        | succ j =>
          simp only [Tr.setF]
          cases hk : Nat.beq (i % 2) 0 with
          | true =>
            have hk' := Nat.eq_of_beq_eq_true hk
            cases hj' : Nat.beq (j % 2) 0 with
            | true =>
              have hj'' := Nat.eq_of_beq_eq_true hj'
              simp only [Tr.lf, Tr.rt, Tr.val]
              rw [ih _ _ _ _ _ _ (by omega) (by omega) (by omega)]
            | false => rfl
          | false =>
            have hk' := Nat.ne_of_beq_eq_false hk
            cases hj' : Nat.beq (j % 2) 0 with
            | true => rfl
            | false =>
              have hj'' := Nat.ne_of_beq_eq_false hj'
              simp only [Tr.lf, Tr.rt, Tr.val]
              rw [ih _ _ _ _ _ _ (by omega) (by omega) (by omega)]

theorem Tr.set_comm (t : Tr) {i j : Nat} (a b : AV) (h : i ≠ j) : (t.set i a).set j b = (t.set j b).set i a :=
  Tr.setF_comm i j t i j a b (Nat.le_refl _) (Nat.le_refl _) h

/-- A frame's slots. -/
structure TRel (β : Nat → Pl) (h : Heap) (tmps : Tm) (a : Act) : Prop where
  size : a.tmps.size = tmps.n
  defers : a.defers = []
  ok : ∀ t v, tmps.tr.get t = some v → a.tmps[t]? = some (gv β v) ∧ okv h v

/-- A frame and a world that a state stands for. -/
def SRel (w0 : World) (st : St) (a : Act) (w : World) : Prop := ∃ β, HRel w0 β (hpS st.heap) w ∧ TRel β (hpS st.heap) st.tmps a

theorem evS_ok {β : Nat → Pl} {h : Heap} {tmps : Tm} {a : Act} (r : TRel β h tmps a) (x : Operand) (v : AV) (hv : evS tmps x = some v) : gv β v = a.eval x ∧ okv h v := by
  cases x with
  | tmp t =>
    obtain ⟨h1, h2⟩ := r.ok t v hv
    refine ⟨?_, h2⟩
    simp only [Act.eval, Array.getD_eq_getD_getElem?, h1, Option.getD_some]
  | const c => exact ⟨ofConst_gv hv β, ofConst_ok hv h⟩
  | global g => cases hv
  | func f => cases hv; exact ⟨rfl, okc_none rfl⟩

theorem guardC_ok {β : Nat → Pl} {h : Heap} {tmps : Tm} {a : Act} (r : TRel β h tmps a) {ops : List Oper} {j : Nat} {b : Option Bool} (hg : guardC ops tmps j = some b) : yielded ops.toArray a.tmps j = b := by
  unfold guardC at hg
  rw [nth_get] at hg
  split at hg
  · rename_i o ho
    split at hg
    · rename_i d hd
      unfold yielded
      have e1 : ops.toArray[j]? = some o := by simpa using ho
      rw [e1]
      simp only [Option.bind_some, hd]
      split at hg
      · rename_i ht
        cases hg
        rw [(r.ok _ _ ht).1]
        rfl
      · rename_i ht
        cases hg
        rw [(r.ok _ _ ht).1]
        rfl
      · rename_i ht
        cases hg
        rw [(r.ok _ _ ht).1]
        rfl
      · cases hg
    · cases hg
  · cases hg

theorem wantedC_ok {β : Nat → Pl} {h : Heap} {tmps : Tm} {a : Act} (r : TRel β h tmps a) {ops : List Oper} {o : Oper} {b : Bool} (hw : wantedC ops tmps o = some b) : Region.wanted o (yielded ops.toArray a.tmps) = b := by
  unfold wantedC at hw
  unfold Region.wanted
  split at hw
  · rename_i hg
    cases hw
    rw [hg]
  · rename_i j want hg
    rw [hg]
    split at hw
    · rename_i b' hb
      simp only [guardC_ok r hb]
      cases hw
      cases b' <;> cases want <;> rfl
    · rename_i hb
      simp only [guardC_ok r hb]
      cases hw
      rfl
    · cases hw

theorem TRel.put {β : Nat → Pl} {h : Heap} {tmps : Tm} {a : Act} (r : TRel β h tmps a) (dst : Option Tmp) {v : AV} (hv : okv h v) : TRel β h (putT tmps dst v) (a.put dst (gv β v)) := by
  cases dst with
  | none => exact r
  | some d =>
    refine ⟨by simp only [Act.put, putT, Array.size_setIfInBounds]; exact r.size, r.defers, fun t u hu => ?_⟩
    simp only [Act.put, putT] at hu ⊢
    rw [Array.getElem?_setIfInBounds]
    cases hb : Nat.blt d tmps.n with
    | true =>
      rw [hb] at hu
      simp only [] at hu
      rw [Tr.get_set] at hu
      have hlt : d < a.tmps.size := by rw [r.size]; exact Nat.le_of_ble_eq_true hb
      by_cases e : t = d
      · subst e
        rw [if_pos rfl] at hu
        cases hu
        rw [if_pos rfl, if_pos hlt]
        exact ⟨rfl, hv⟩
      · rw [if_neg e] at hu
        rw [if_neg (Ne.symm e)]
        exact r.ok t u hu
    | false =>
      rw [hb] at hu
      simp only [] at hu
      obtain ⟨h1, h2⟩ := r.ok t u hu
      have hlt : ¬ d < a.tmps.size := by
        rw [r.size]
        intro h
        rw [show Nat.blt d tmps.n = true from Nat.ble_eq_true_of_le h] at hb
        cases hb
      by_cases e : d = t
      · subst e
        rw [Array.getElem?_eq_none (Nat.le_of_not_lt hlt)] at h1
        cases h1
      · rw [if_neg e]
        exact ⟨h1, h2⟩

theorem TRel.upd {β : Nat → Pl} {h h' : Heap} {tmps : Tm} {a : Act} (r : TRel β h tmps a) {id : Nat} (hid : h id = .un) (p : Pl) (hg : Grows h h') : TRel (upd β id p) h' tmps a := by
  refine ⟨r.size, r.defers, fun t v hv => ?_⟩
  obtain ⟨h1, h2⟩ := r.ok t v hv
  exact ⟨by rw [h1, gv_upd h2 hid p], h2.grow hg⟩

/-- What an operation came to: nothing (passed over), or an effect. -/
structure Ent where
  j : Nat
  o : Oper
  id : Nat
  out : Option Eff

def applyOut (o : Oper) (st : St) : Option Eff → St
  | none => ⟨putT st.tmps o.dst AV.undef, st.heap⟩
  | some e => ⟨putT st.tmps o.dst e.val, setL st.heap e.wr⟩

def Step1 (E : Env) (ops : List Oper) (id : Nat) (o : Oper) (st : St) : Option Eff → Prop
  | none => wantedC ops st.tmps o = some false
  | some e => wantedC ops st.tmps o = some true ∧ e.pre.holds ∧ ∃ v, act E id (evS st.tmps) (hpS st.heap) o = some ⟨v, e.pre, e.reads, e.wr⟩ ∧
      (e.val = v ∨ ∃ b, v = .one (.c (.bool b)) ∧ e.val = .one (.c (ofBool b)))

theorem step_sound {E : Env} (hE : EnvOk E) {ops : List Oper} {Q : Exit → Act → World → Prop} {w0 : World} {st : St} {a : Act} {w : World} (r : SRel w0 st a w) {j id : Nat} {o : Oper} (ho : ops[j]? = some o)
    (hid : hpS st.heap id = .un) (hlt : takes E o = true → id < st.heap.length) {out : Option Eff} (hs : Step1 E ops id o st out) {K : Act → World → Prop} (hK : ∀ a' w', SRel w0 (applyOut o st out) a' w' → K a' w') :
    wpOp E.P ops.toArray Q j K a w := by
  obtain ⟨β, hr, tr⟩ := r
  unfold wpOp
  have e1 : ops.toArray[j]? = some o := by simpa using ho
  rw [e1]
  simp only []
  cases out with
  | none =>
    rw [wantedC_ok tr hs]
    simp only [Bool.false_eq_true, if_false]
    exact hK _ _ ⟨β, hr, tr.put o.dst (v := AV.undef) (by intro v hv; cases hv)⟩
  | some e =>
    obtain ⟨hw, hp, v, hact, hval⟩ := hs
    rw [wantedC_ok tr hw]
    simp only [if_true]
    refine .inl ?_
    have hop := act_sound hE hr hid (ρ := a.eval) (fun x _ u hu => evS_ok tr x u hu) hact hp
    refine hop.wp fun u w' ⟨p, hu, hr', hok⟩ => hK _ _ ?_
    have hwr := act_wr hact
    have hrange : ∀ q ∈ e.wr, q.1 < st.heap.length := fun q hq => by
      rcases (hwr q hq).2 with ⟨h1, h2⟩ | h1
      · rw [h1]; exact hlt h2
      · exact hpS_lt h1
    have hheap : hpS (setL st.heap e.wr) = updL (hpS st.heap) e.wr := hpS_setL e.wr st.heap hrange
    refine ⟨upd β id p, by show HRel w0 _ (hpS (setL st.heap e.wr)) w'; rw [hheap]; exact hr', ?_⟩
    show TRel (upd β id p) (hpS (setL st.heap e.wr)) (putT st.tmps o.dst e.val) (a.put o.dst u)
    rw [hheap]
    have tr' := tr.upd hid p (updL_grows e.wr (hpS st.heap) fun q hq => (hwr q hq).1)
    have hval2 : gv (upd β id p) e.val = u ∧ okv (updL (hpS st.heap) e.wr) e.val := by
      rcases hval with h1 | ⟨b, h1, h2⟩
      · rw [h1]; exact ⟨hu.symm, hok⟩
      · rw [h2, hu, h1]
        exact ⟨gc_ofBool _ b, okc_none (ofBool_id b)⟩
    rw [← hval2.1]
    exact tr'.put o.dst hval2.2

def Runs (E : Env) (ops : List Oper) : List Ent → St → St → Prop
  | [], s, s' => s = s'
  | x :: xs, s, s' => Step1 E ops x.id x.o s x.out ∧ Runs E ops xs (applyOut x.o s x.out) s'

def footOf : Option Eff → Foot
  | none => ([], [])
  | some e => (e.reads, e.wr.map (·.1))

/-- The entries of operations in the order of the text. -/
def Shape (E : Env) (L : Nat) : List Oper → Nat → Nat → List Ent → Prop
  | [], _, _, xs => xs = []
  | o :: rest, j, id, xs => match xs with
    | [] => False
    | x :: xs => x.o = o ∧ x.j = j ∧ x.id = myId E o L id ∧ Shape E L rest (j + 1) (bumpId E o id) xs

theorem runOps_sat {E : Env} {ops : List Oper} {L : Nat} {Q : St × List Foot → Prop} : ∀ (rest : List Oper) (j id : Nat) (st : St) (log : List Foot), (runOps E ops L rest j id st log).sat Q →
    ∃ ents st', Runs E ops ents st st' ∧ Shape E L rest j id ents ∧ Q (st', (ents.map fun x => footOf x.out).reverse ++ log)
  | [], j, id, st, log, h => ⟨[], st, rfl, rfl, by simpa [runOps, Tree.sat] using h⟩
  | o :: rest, j, id, st, log, h => by
    unfold runOps at h
    split at h
    · exact h.elim
    · rename_i hw
      obtain ⟨ents, st', h1, h2, h3⟩ := runOps_sat rest _ _ _ _ h
      exact ⟨⟨j, o, myId E o L id, none⟩ :: ents, st', ⟨hw, h1⟩, ⟨rfl, rfl, rfl, h2⟩, by simpa [footOf] using h3⟩
    · rename_i hw
      split at h
      · exact h.elim
      · rename_i e hact
        simp only [] at h
        have fin : e.pre.holds → ∀ u : AV, (e.val = u ∨ ∃ b, e.val = .one (.c (.bool b)) ∧ u = .one (.c (ofBool b))) →
            (runOps E ops L rest (j + 1) (bumpId E o id) ⟨putT st.tmps o.dst u, setL st.heap e.wr⟩ ((e.reads, e.wr.map (·.1)) :: log)).sat Q →
            ∃ ents st', Runs E ops ents st st' ∧ Shape E L (o :: rest) j id ents ∧ Q (st', (ents.map fun x => footOf x.out).reverse ++ log) := by
          intro hp u hu hq
          obtain ⟨ents, st', h1, h2, h3⟩ := runOps_sat rest _ _ _ _ hq
          refine ⟨⟨j, o, myId E o L id, some ⟨u, e.pre, e.reads, e.wr⟩⟩ :: ents, st', ⟨⟨hw, hp, e.val, hact, ?_⟩, h1⟩, ⟨rfl, rfl, rfl, h2⟩, by simpa [footOf] using h3⟩
          rcases hu with h | ⟨b, h, h'⟩
          · exact .inl h.symm
          · exact .inr ⟨b, h, h'⟩
        have ways : e.pre.holds → (match e.val with
            | .one (.c (.bool b)) => match isGuard ops j with
              | true => Tree.br b (runOps E ops L rest (j + 1) (bumpId E o id) ⟨putT st.tmps o.dst (.one (.c .tt)), setL st.heap e.wr⟩ ((e.reads, e.wr.map Prod.fst) :: log))
                  (runOps E ops L rest (j + 1) (bumpId E o id) ⟨putT st.tmps o.dst (.one (.c .ff)), setL st.heap e.wr⟩ ((e.reads, e.wr.map Prod.fst) :: log))
              | false => runOps E ops L rest (j + 1) (bumpId E o id) ⟨putT st.tmps o.dst e.val, setL st.heap e.wr⟩ ((e.reads, e.wr.map Prod.fst) :: log)
            | _ => runOps E ops L rest (j + 1) (bumpId E o id) ⟨putT st.tmps o.dst e.val, setL st.heap e.wr⟩ ((e.reads, e.wr.map Prod.fst) :: log)).sat Q →
            ∃ ents st', Runs E ops ents st st' ∧ Shape E L (o :: rest) j id ents ∧ Q (st', (ents.map fun x => footOf x.out).reverse ++ log) := by
          intro hp hq
          split at hq
          · rename_i b hb
            split at hq
            · cases b with
              | true => exact fin hp _ (.inr ⟨true, hb, rfl⟩) (hq.1 rfl)
              | false => exact fin hp _ (.inr ⟨false, hb, rfl⟩) (hq.2 rfl)
            · exact fin hp _ (.inl rfl) hq
          · exact fin hp _ (.inl rfl) hq
        split at h
        · rename_i hpre
          exact ways (by rw [hpre]; trivial) h
        · rename_i x hpre
          exact ways (by rw [hpre]; exact h.1) (h.2 h.1)

end Go.Proofs.Ytfkmooldindfjaa
