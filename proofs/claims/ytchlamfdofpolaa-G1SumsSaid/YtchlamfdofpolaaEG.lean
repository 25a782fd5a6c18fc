/- Slices of elements of several cells as arguments and as answers. -/
import Derived.Test.YtchlamfdofpolaaEF
set_option linter.unusedSimpArgs false
set_option linter.unusedVariables false
namespace Go.Proofs.Ytchlamfdofpolaa
open Go.RowKit

/-- A slice of so many elements of sz cells each, that lies in a world. -/
def ViewIs (sz : Nat) (w : World) (v : Value) (len : Nat) (vs : List Value) : Prop :=
  ∃ base cap, v = .slice base len cap ∧ len < topLen ∧ vs.length = len * sz ∧ match base with
    | none => len = 0 ∧ cap = 0
    | some a => a.spot = none ∧ len ≤ cap ∧ (len ≠ 0 → a.block < w.heap.size) ∧ ∀ (i : Nat) (u : Value), vs[i]? = some u → w.cell? (a.add i) = some u

theorem ViewIs.of_view {sz : Nat} (h0 : 0 < sz) {w0 : W0} {β : Nat → Pl} {h : Heap} {w : World} (r : HRel w0 β h w) {i off len : Nat} {rc : RC} {kn : Bool} {b : Blk} (hb : h i = .live b)
    (hlen : off + len * sz ≤ b.body.cells.length) (ht : len < topLen) (hf : rc.fits off len sz b.esz) : ViewIs sz w (gv β (.one (.c (.slc i off len sz rc kn)))) len (((b.body.cells.drop off).take (len * sz)).map (gc β)) := by
  have hbk := r.blk i b hb
  have hl : (((b.body.cells.drop off).take (len * sz)).map (gc β)).length = len * sz := by rw [List.length_map, List.length_take, List.length_drop]; omega
  cases ha : (β i).base with
  | none =>
    unfold BlkOk at hbk
    rw [ha] at hbk
    rw [hbk.1] at hlen
    obtain rfl : len = 0 := by
      simp at hlen
      rcases Nat.mul_eq_zero.1 (show len * sz = 0 by omega) with h | h <;> omega
    exact ⟨none, 0, by simp [gv, g1, gc, ha], by simp [topLen], hl, rfl, rfl⟩
  | some a =>
    have hbk' := hbk
    unfold BlkOk at hbk
    rw [ha] at hbk
    obtain ⟨q0, q1, q2, q3, q4⟩ := hbk
    refine ⟨some (a.add off), rc.val (β i), by simp only [gv, g1, gc, ha], by omega, hl, ?_, ?_, fun hne => ?_, fun j u hu => ?_⟩
    · unfold Addr.add; split <;> simp_all
    · cases rc with
      | kn n => exact hf
      | of k =>
        obtain ⟨f1, f2⟩ := hf
        simp only [RC.val]
        have h3 := q3 (by rw [f2]; omega)
        rw [f2] at h3
        have h4 : (k + len) * sz ≤ (β i).cap * sz := by rw [Nat.add_mul, f1]; omega
        have := Nat.le_of_mul_le_mul_right h4 h0
        omega
    · rw [cell_add]
      exact hbk'.lt r.below ha (.inr fun e => by
        rw [e] at hlen
        simp at hlen
        rcases Nat.mul_eq_zero.1 (show len * sz = 0 by omega) with h | h <;> omega)
    · refine r.read hb ha off j u ?_
      rw [List.getElem?_map, List.getElem?_take] at hu
      rw [List.getElem?_map]
      split at hu
      · exact hu
      · cases hu

/-- One more slice. -/
theorem ViewIs.named {sz : Nat} (h0 : 0 < sz) {w0 : W0} {β : Nat → Pl} {heap : List HE} {w : World} (r : HRel w0 β (hpS heap) w) (hw : w0.fresh w) {v : Value} {cs : List Cell} {body : Body} (hbody : body.cells = cs) (hcs : ∀ c ∈ cs, c.idOf = none) {n : Nat}
    (h : ViewIs sz w v n (cs.map (gc β0))) (kn : Bool) :
    ∃ p, HRel w0 (upd β heap.length p) (hpS (heap ++ [.live ⟨false, 0, sz, body, false⟩])) w ∧ gv (upd β heap.length p) (.one (.c (.slc heap.length 0 n sz (.of 0) kn))) = v ∧
      okv (hpS (heap ++ [.live ⟨false, 0, sz, body, false⟩])) (.one (.c (.slc heap.length 0 n sz (.of 0) kn))) := by
  obtain ⟨base, cap, rfl, ht, hl, hb⟩ := h
  rw [List.length_map] at hl
  refine ⟨⟨base, cap⟩, ?_, ?_, ?_⟩
  · rw [hpS_snoc]
    refine r.ext (hpS_un heap) _ _ rfl rfl (fun c hc => okc_none (hcs c (by rw [← hbody]; exact hc))) ?_
    unfold BlkOk
    rw [upd_same]
    cases base with
    | none =>
      obtain ⟨rfl, rfl⟩ := hb
      rw [Nat.zero_mul] at hl
      exact ⟨by rw [hbody]; exact List.length_eq_zero_iff.1 hl, rfl, by simp only; omega⟩
    | some a =>
      obtain ⟨b0, b1, b2, b3⟩ := hb
      refine ⟨b0, fun i c hc => ?_, fun _ hne => ?_, fun _ => by simp only [hbody, hl]; exact Nat.mul_le_mul_right _ b1, fun e => by cases e⟩
      · simp only [hbody] at hc
        rw [b3 i (gc β0 c) (by rw [List.getElem?_map, hc]; rfl)]
        exact congrArg some (gc_congr fun j hj => by rw [hcs c (List.mem_of_getElem? hc)] at hj; cases hj)
      · simp only [hbody] at hne
        have := b2 (by
          rintro rfl
          rw [Nat.zero_mul] at hl
          exact hne (List.length_eq_zero_iff.1 hl))
        intro hnew
        have := hw _ hnew
        omega
  · simp only [gv, g1, gc, upd_same]
    cases base with
    | none =>
      obtain ⟨rfl, rfl⟩ := hb
      rfl
    | some a =>
      have b0 := hb.1
      simp only [RC.val, Nat.sub_zero]
      rw [add_none b0]
  · intro i hi
    cases hi
    rw [hpS_snoc, upd_same]
    simp

/-- A list of one kind as one of another. -/
def castR (k k' : RK) (xs : List k'.ty) : Option (List k.ty) :=
  match k, k', xs with
  | .fr, .fr, xs => some xs
  | .g1, .g1, xs => some xs
  | .g2, .g2, xs => some xs
  | .duo, .duo, xs => some xs
  | .sp1, .sp1, xs => some xs
  | .sp2, .sp2, xs => some xs
  | _, _, _ => none
theorem castR_ok {k k' : RK} {xs : List k'.ty} {ys : List k.ty} (h : castR k k' xs = some ys) : rowsC k' xs = rowsC k ys ∧ ys.length = xs.length ∧ k = k' := by
  cases k <;> cases k' <;> simp [castR] at h <;> subst h <;> exact ⟨rfl, rfl, rfl⟩

def rwRd (k : RK) (h : Heap) (v : AV) : Option (List k.ty × Pr × List Nat) :=
  match v with
  | .one (.c .nils) => some ([], .t, [])
  | .one (.c (.slc i off len sz rc kn)) => match Nat.beq sz k.sz, liveOf h i with
    | true, some b => match b.body with
      | .rows k' xs => match castR k k' xs with
        | some ys => some ((ys.drop (off / sz)).take len, .p (off + len * sz ≤ (rowsC k' xs).length ∧ off % sz = 0 ∧ len < topLen ∧ rc.fits off len sz b.esz), [i])
        | none => none
      | .row cs => match kn with
        | true => match rdRows k len ((cs.drop off).take (len * sz)) with
          | some ys => match leB (off + len * sz) cs.length, Nat.blt len topLen, rc.fitsB off len sz b.esz with
            | true, true, true => some (ys, .t, [i])
            | _, _, _ => none
          | none => none
        | false => none
      | .elts _ _ => none
    | _, _ => none
  | _ => none

def RwIs (k : RK) (w : World) (v : Value) (xs : List k.ty) : Prop := ViewIs k.sz w v xs.length ((rowsC k xs).map (gc β0))

def argRw (k : RK) : Arg (List k.ty) where
  rd := rwRd k
  is := RwIs k
  ok := fun {w0 β h w v x p rs} e hp hr hok => by
    unfold rwRd at e
    split at e
    · cases e
      exact ⟨none, 0, rfl, by simp [topLen], by simp [rowsC], rfl, rfl⟩
    · rename_i i off len sz rc kn
      split at e
      · rename_i b hsz hb
        have hsz := Nat.eq_of_beq_eq_true hsz
        subst hsz
        have hb := liveOf_some hb
        split at e
        · rename_i k' xs hbody
          split at e
          · rename_i ys hys
            cases e
            obtain ⟨c1, c2, rfl⟩ := castR_ok hys
            obtain ⟨h1, h2, h3, h4⟩ := hp
            have hv := ViewIs.of_view (kn := kn) k.sz_pos hr hb (by rw [hbody]; exact h1) h3 h4
            have e0 : off = off / k.sz * k.sz := by
              have := Nat.div_add_mod off k.sz
              rw [h2, Nat.mul_comm] at this
              omega
            have e1 : (rowsC k ys).length = ys.length * k.sz := rowsC_len k ys
            have hlen : ((ys.drop (off / k.sz)).take len).length = len := by
              rw [List.length_take, List.length_drop]
              rw [c1, e1] at h1
              have : (off / k.sz + len) * k.sz ≤ ys.length * k.sz := by rw [Nat.add_mul, ← e0]; exact h1
              have := Nat.le_of_mul_le_mul_right this k.sz_pos
              omega
            have e2 : ((b.body.cells.drop off).take (len * k.sz)) = rowsC k ((ys.drop (off / k.sz)).take len) := by
              rw [← rowsC_take, ← rowsC_drop, ← e0, hbody]
              exact congrArg (fun z => (z.drop off).take (len * k.sz)) c1
            unfold RwIs
            rw [hlen, ← rowsC_gc k _ β, ← e2]
            exact hv
          · cases e
        · rename_i cs hbody
          split at e
          · split at e
            · rename_i ys hys
              split at e
              · rename_i h1 h2 h3
                cases e
                have hv := ViewIs.of_view (kn := true) k.sz_pos hr hb (by rw [hbody]; exact leB_le h1) (Nat.le_of_ble_eq_true h2) (RC.fits_of h3)
                obtain ⟨r1, r2⟩ := rdRows_ok k β hys
                unfold RwIs
                rw [r2, ← r1]
                rw [hbody] at hv
                exact hv
              · cases e
            · cases e
          · cases e
        · cases e
      · cases e
    · cases e
  near := fun {h h' v x p rs} e H => by
    unfold rwRd at e ⊢
    split at e
    · exact e
    · rename_i i off len sz rc kn
      split at e
      · rename_i b hsz hb
        have hi : h i = h' i := H i (by
          split at e
          · split at e
            · cases e; simp
            · cases e
          · split at e
            · split at e
              · split at e
                · cases e; simp
                · cases e
              · cases e
            · cases e
          · cases e)
        have : liveOf h' i = liveOf h i := by unfold liveOf; rw [hi]
        simp only [this, hsz, hb]
        exact e
      · cases e
    · cases e

def rwHE (k : RK) (xs : List k.ty) : HE := .live ⟨false, 0, k.sz, .rows k xs, false⟩
def rwV (k : RK) (i : Nat) (xs : List k.ty) : AV := .one (.c (.slc i 0 xs.length k.sz (.of 0) false))
def inpRw (k : RK) : Inp (List k.ty) where
  arg := argRw k
  av := fun n x => rwV k n x
  hes := fun x => [rwHE k x]
  fact := fun x => x.length < topLen
  known := fun {w v x} h => by obtain ⟨_, _, _, h, _⟩ := h; exact h
  intro := fun {w0 β heap w v x} hr hw hv => by
    obtain ⟨p, h1, h2, h3⟩ := ViewIs.named (body := .rows k x) (cs := rowsC k x) k.sz_pos hr hw rfl (rowsC_id k x) hv false
    exact ⟨_, h1, h2, h3, fun i hi => upd_ne _ _ (by omega)⟩

/-- A slice that a call has made. -/
def NewSlE (sz : Nat) (ty : TypeId) (w w' : World) (v : Value) (len : Nat) (vs : List Value) : Prop :=
  ∃ base cap, v = .slice base len cap ∧ vs.length = len * sz ∧ match base with
    | none => len = 0 ∧ cap = 0
    | some a => a.off = 0 ∧ a.spot = none ∧ w.heap.size ≤ a.block ∧ ∃ cur, w'.heap[a.block]? = some (.cells cur ty (0, 0)) ∧ cur.size = cap * sz ∧ cap ≤ maxLen ∧ len ≤ cap ∧
        ∀ (i : Nat) (u : Value), vs[i]? = some u → cur[i]? = some u

theorem NewSlE.eff {sz : Nat} (h0 : 0 < sz) {ty : TypeId} {w w' : World} {v : Value} {cs : List Cell} {n : Nat} (hf : NewSlE sz ty w w' v n (cs.map (gc β0))) {w0 : W0} {β : Nat → Pl} {h : Heap} (hr : HRel w0 β h w) {id : Nat} (hid : h id = .un) (hb : Below w.heap.size w w')
    {body : Body} (hbody : body.cells = cs) (hcs : ∀ c ∈ cs, c.idOf = none) (kn : Bool) :
    EffOk w0 β h id (.one (.c (.slc id 0 n sz (.of 0) kn))) (newL id (some ⟨true, ty, sz, body, false⟩)) v w' := by
  obtain ⟨base, cap, rfl, hl, hbase⟩ := hf
  rw [List.length_map] at hl
  have hok : okv (updL h (newL id (some ⟨true, ty, sz, body, false⟩))) (.one (.c (.slc id 0 n sz (.of 0) kn))) := by
    intro i hi
    cases hi
    simp [newL, updL, upd_same]
  cases base with
  | none =>
    obtain ⟨rfl, rfl⟩ := hbase
    rw [Nat.zero_mul] at hl
    exact ⟨⟨none, 0⟩, by simp [gv, g1, gc, upd_same], hr.newNil hid hb ty sz (by omega) body (by rw [hbody]; exact List.length_eq_zero_iff.1 hl), hok⟩
  | some a =>
    obtain ⟨h1, h2, h3, cur, h4, h5, h6, h7, h8⟩ := hbase
    have ha : a = ⟨a.block, 0, none⟩ := by cases a; simp_all
    refine ⟨⟨some ⟨a.block, 0, none⟩, cap⟩, ?_, ?_, hok⟩
    · simp only [gv, g1, gc, upd_same, RC.val, Nat.sub_zero]
      rw [← ha, add_none h2]
    · refine hr.new hid hb a.block cap ty sz body cur h3 h4 (fun i c hc => ?_) (by rw [hbody, h5, hl]; exact Nat.mul_le_mul_right _ h7) (fun _ => ⟨h5, h6⟩) (fun e => by omega) (fun c hc => okc_none (hcs c (by rw [← hbody]; exact hc)))
      rw [hbody] at hc
      rw [h8 i (gc β0 c) (by rw [List.getElem?_map, hc]; rfl)]
      exact congrArg some (gc_congr fun j hj => by rw [hcs c (List.mem_of_getElem? hc)] at hj; cases hj)

theorem NewSlE.of_own {sz : Nat} (h0 : 0 < sz) {w w' : World} {β : Nat → Pl} {hp : Heap} (hr : HRel (.of w) β hp w') {i : Nat} {ty : TypeId} {body : Body} {pin : Bool} (hi : hp i = .live ⟨true, ty, sz, body, pin⟩) {len : Nat} {kn : Bool}
    (hlen : len * sz ≤ body.cells.length) :
    NewSlE sz ty w w' (gv β (.one (.c (.slc i 0 len sz (.of 0) kn)))) len ((body.cells.take (len * sz)).map (gc β)) := by
  have hb := hr.blk i _ hi
  unfold BlkOk at hb
  have hl : ((body.cells.take (len * sz)).map (gc β)).length = len * sz := by rw [List.length_map, List.length_take]; omega
  cases ha : (β i).base with
  | none =>
    rw [ha] at hb
    have e0 : body.cells = [] := hb.1
    rw [e0] at hlen
    obtain rfl : len = 0 := by
      have hz : len * sz = 0 := Nat.le_zero.1 hlen
      rcases Nat.mul_eq_zero.1 hz with h | h
      · exact h
      · omega
    exact ⟨none, 0, by simp [gv, g1, gc, ha], hl, rfl, rfl⟩
  | some a =>
    rw [ha] at hb
    obtain ⟨q0, q1, q2, q3, q4⟩ := hb
    obtain ⟨r1, r2, cur, r3, r4, r5, r6⟩ := q4 rfl
    simp only [] at r3 r4 r5 r6
    have hadd : a.add 0 = a := by unfold Addr.add; split <;> simp_all
    obtain ⟨s1, s2⟩ := r5 (by omega)
    have hcap : len ≤ (β i).cap := by
      rw [s1] at r4
      exact Nat.le_of_mul_le_mul_right (Nat.le_trans hlen r4) h0
    refine ⟨some a, (β i).cap, by simp only [gv, g1, gc, ha, hadd, RC.val, Nat.sub_zero], hl, r2, q0, r1.elim id False.elim, cur, r3, s1, s2, hcap, fun j u hu => ?_⟩
    have hjl : j < len * sz := by
      rcases Nat.lt_or_ge j (len * sz) with h | h
      · exact h
      · rw [List.getElem?_eq_none (by rw [hl]; exact h)] at hu; cases hu
    rw [List.getElem?_map, List.getElem?_take, if_pos hjl] at hu
    cases hc : body.cells[j]? with
    | none => rw [hc] at hu; cases hu
    | some c =>
      rw [hc] at hu
      cases hu
      have := q1 j c hc
      unfold World.cell? at this
      rw [cell_add, r3] at this
      have hsp : (a.add j).spot = none := by unfold Addr.add; split <;> simp_all
      have hoff : (a.add j).off = j := by unfold Addr.add; split <;> simp_all
      simp only [hsp, Option.isSome_none, Bool.false_eq_true, if_false, hoff] at this
      exact this

/-- A slice of elements of several cells, as an answer. -/
def resRw (k : RK) (ty : TypeId) : Res (List k.ty) where
  wr := fun id xs => .one (.c (.slc id 0 xs.length k.sz (.of 0) false))
  new := fun xs => some ⟨true, ty, k.sz, .rows k xs, false⟩
  is := fun w w' v xs => NewSlE k.sz ty w w' v xs.length ((rowsC k xs).map (gc β0))
  ok := fun {w0 β h w w' id v x} hr hid hb hf => NewSlE.eff k.sz_pos hf hr hid hb rfl (rowsC_id k x) false

theorem NewSlE.nil (sz : Nat) (ty : TypeId) (w w' : World) : NewSlE sz ty w w' (.slice none 0 0) 0 [] := ⟨none, 0, rfl, by simp, rfl, rfl⟩

def outRw (k : RK) (ty : TypeId) : Out (List k.ty) where
  res := resRw k ty
  rd := fun hp v => match v with
    | .one (.c .nils) => some ([], .t)
    | .one (.c (.slc i 0 len sz (.of 0) kn)) => match hpS hp i with
      | .live ⟨true, ty', esz, body, pin⟩ => match Nat.beq ty' ty && Nat.beq sz k.sz && Nat.beq esz k.sz with
        | true => match body with
          | .rows k' xs => match castR k k' xs with
            | some ys => some (ys.take len, .p (len ≤ ys.length))
            | none => none
          | .row cs => match kn with
            | true => match rdRows k len (cs.take (len * k.sz)), leB (len * k.sz) cs.length with
              | some ys, true => some (ys, .t)
              | _, _ => none
            | false => none
          | .elts _ _ => none
        | false => none
      | _ => none
    | _ => none
  ok := fun {w β hp w' v x p} e hp' hr hok => by
    split at e
    · cases e
      exact NewSlE.nil _ _ _ _
    · rename_i i len sz kn
      split at e
      · rename_i ty' esz body pin hi
        split at e
        · rename_i hc
          simp only [Bool.and_eq_true] at hc
          have c1 := Nat.eq_of_beq_eq_true hc.1.1
          have c2 := Nat.eq_of_beq_eq_true hc.1.2
          have c3 := Nat.eq_of_beq_eq_true hc.2
          subst c1 c2 c3
          split at e
          · rename_i k' xs
            split at e
            · rename_i ys hys
              cases e
              obtain ⟨d1, d2, rfl⟩ := castR_ok hys
              have hle : len ≤ ys.length := hp'
              have hv := NewSlE.of_own (kn := kn) k.sz_pos hr hi (len := len) (by
                show len * k.sz ≤ (rowsC k xs).length
                rw [d1, rowsC_len]
                exact Nat.mul_le_mul_right _ hle)
              have e2 : ((Body.rows k xs).cells.take (len * k.sz)) = rowsC k (ys.take len) := by
                rw [← rowsC_take]
                exact congrArg (fun z => z.take (len * k.sz)) d1
              rw [e2, rowsC_gc] at hv
              show NewSlE k.sz ty' w w' _ (ys.take len).length _
              rw [show (ys.take len).length = len by rw [List.length_take]; omega]
              exact hv
            · cases e
          · rename_i cs
            split at e
            · split at e
              · rename_i ys hys hl
                cases e
                have hv := NewSlE.of_own (kn := true) k.sz_pos hr hi (len := len) (leB_le hl)
                obtain ⟨r1, r2⟩ := rdRows_ok k β hys
                show NewSlE k.sz ty' w w' _ x.length _
                rw [r2, ← r1]
                exact hv
              · cases e
            · cases e
          · cases e
        · cases e
      · cases e
    · cases e

theorem rowsC_fr (xs : List Fr) : (rowsC .fr xs).length = xs.length * 4 := rowsC_len .fr xs
theorem rowsC_g1 (xs : List Pg1) : (rowsC .g1 xs).length = xs.length * 13 := rowsC_len .g1 xs
theorem rowsC_g2 (xs : List Pg2) : (rowsC .g2 xs).length = xs.length * 25 := rowsC_len .g2 xs
theorem rowsC_duo (xs : List Duo) : (rowsC .duo xs).length = xs.length * 38 := rowsC_len .duo xs
theorem rowsC_sp1 (xs : List Sp1) : (rowsC .sp1 xs).length = xs.length * 18 := rowsC_len .sp1 xs
theorem rowsC_sp2 (xs : List Fp6) : (rowsC .sp2 xs).length = xs.length * 36 := rowsC_len .sp2 xs

/-! ## loops behind loops -/

/-- A function whose end is a scope with one label, whatever stands ahead of the label. -/
theorem DoesL.scopeFnG {ρ : Type} {E : Env} {o : Out ρ} {fn : Func} {cs tail : List Code} {body rest : Code} {l : Nat} (hE : EnvOk E) (he : cs = .scope body :: tail) (hf : findLabel body l = some rest) (k : Nat)
    (hk : flat rest = .skip :: (flat body).drop k)
    {st : St} {ι : Type} (I : ι → St) (m : ι → Nat) (i0 : ι) {x : ρ} (h0 : DoesL E ((flat body).take k) st fun r => match r.1 with | .normal => r.2 = I i0 | _ => False)
    (h : ∀ i, DoesL E ((flat body).drop k) (I i) (Within E fn o x (Wn fun r => match r.1 with | .goto l' => l' = l ∧ ∃ j, m j < m i ∧ r.2 = I j | _ => False))) :
    DoesL E cs st (EndsAs E fn (Reads o x)) := by
  subst he
  show Does E _ _ _
  have each : ∀ i, DoesL E ((flat body).drop k) (I i) fun r => match r.1 with | .goto l' => l' = l ∧ ∃ j, m j < m i ∧ r.2 = I j | _ => ThenX (EndsAs E fn (Reads o x)) (fun s => DoesL E tail s (EndsAs E fn (Reads o x))) r := by
    intro i
    refine DoesL.wn (DoesL.mono (h i) fun r hr => ?_)
    obtain ⟨e, s⟩ := r
    cases e with
    | ret => exact Wn.of hr
    | normal => obtain ⟨s', h1, h2⟩ := hr; exact h2.elim
    | exit id => obtain ⟨s', h1, h2⟩ := hr; exact h2.elim
    | goto l' => exact hr
  refine Does.scope hf I m (m i0) (Does.flat _ ?_) fun i => Does.flat _ (by rw [hk]; exact DoesL.skip hE (each i))
  rw [← List.take_append_drop k (flat body)]
  refine DoesL.join (DoesL.mono h0 fun r hr => ?_)
  obtain ⟨e, s⟩ := r
  cases e with
  | normal =>
    simp only at hr
    subst hr
    exact each i0
  | exit id => exact hr.elim
  | goto l' => exact hr.elim
  | ret => exact hr.elim

/-- Some pieces in which the function may answer, within rounds. -/
theorem DoesL.segW {ρ : Type} {E : Env} (hE : EnvOk E) {o : Out ρ} (n k : Nat) {fn : Func} {cs : List Code} {st : St} (keep hs : List Nat) (gs : List (Nat × G)) (bs : List GB) (news : List (TypeId × NK)) {x : ρ} {R : X × St → Prop} {T : Tree (St ⊕ Option (ρ × Pr))}
    (e : segT E o n fn (cs.take k) st keep hs gs bs news = T) (h : T.sat (Seg (fun s => DoesL E (cs.drop k) s (Within E fn o x R)) x)) : DoesL E cs st (Within E fn o x R) := by
  subst e
  unfold segT at h
  rw [Tree.sat_bind] at h
  have h1 := DoesL.iter (o := o) (fn := fn) (x := x) (R := fun r => match r.1 with | .normal => DoesL E (cs.drop k) r.2 (Within E fn o x R) | _ => False) hE n (cs := cs.take k) (st := st) keep hs rfl (Tree.sat_mono (fun q hq => by
    cases q with
    | inl r =>
      obtain ⟨e, s⟩ := r
      cases e with
      | normal =>
        simp only at hq
        split at hq
        · rename_i s' hs'
          exact DoesL.wk (Wk.gen hs') hq
        · exact hq.elim
      | exit id => exact hq.elim
      | goto l => exact hq.elim
      | ret => exact hq.elim
    | inr a => exact hq) h)
  rw [← List.take_append_drop k cs]
  refine DoesL.join (DoesL.wn (DoesL.mono h1 fun r hr => ?_))
  obtain ⟨e, s⟩ := r
  cases e with
  | normal => exact hr
  | ret => exact Wn.of hr
  | exit id => obtain ⟨s', q1, q2⟩ := hr; exact q2.elim
  | goto l => obtain ⟨s', q1, q2⟩ := hr; exact q2.elim

/-- The piece that jumps back. -/
theorem DoesL.jump {ρ : Type} {E : Env} (hE : EnvOk E) {o : Out ρ} {fn : Func} {x : ρ} {l : Nat} {st : St} {R : X × St → Prop} (h : R (.goto l, st)) : DoesL E [.goto l] st (Within E fn o x R) :=
  DoesL.exec hE 1 (by
    show Within E fn o x R (.goto l, st)
    exact h)

/-- Some pieces within a function: a state where they end (made small as it needs), or an answer. -/
def iterP {ρ : Type} (E : Env) (o : Out ρ) (n : Nat) (fn : Func) (cs : List Code) (st : St) (f : X × St → Option (List Nat × List Nat)) : Tree ((X × St) ⊕ Option (ρ × Pr)) := (execL E n cs st).bind fun q => match q.1 with
  | .ret => match resAll E.P fn.results.toList q.2 with
    | some v => .leaf (.inr (o.rd q.2.heap v))
    | none => .fail
  | x => match f q with
    | some (keep, hs) => match shrink keep hs q.2 with
      | some st => .leaf (.inl (x, st))
      | none => .fail
    | none => .leaf (.inl (x, q.2))
theorem DoesL.iterP {ρ : Type} {E : Env} (hE : EnvOk E) {o : Out ρ} (n : Nat) {fn : Func} {cs : List Code} {st : St} (f : X × St → Option (List Nat × List Nat)) {x : ρ} {R : X × St → Prop} {T : Tree ((X × St) ⊕ Option (ρ × Pr))}
    (e : Go.Proofs.Ytchlamfdofpolaa.iterP E o n fn cs st f = T) (h : T.sat (Iter R x)) : DoesL E cs st (Within E fn o x (Wn R)) := by
  subst e
  refine DoesL.exec hE n ?_
  unfold Go.Proofs.Ytchlamfdofpolaa.iterP at h
  rw [Tree.sat_bind] at h
  refine Tree.sat_mono (fun q hq => ?_) h
  obtain ⟨e, s⟩ := q
  have other : (match f (e, s) with
    | some (keep, hs) => match shrink keep hs s with | some st => Tree.leaf (Sum.inl (e, st)) | none => .fail
    | none => .leaf (.inl (e, s))).sat (Iter (ρ := ρ) R x) → Wn R (e, s) := by
    intro h
    split at h
    · split at h
      · rename_i s' hs'
        exact ⟨s', Wk.shrink hs', h⟩
      · exact h.elim
    · exact ⟨s, Wk.refl s, h⟩
  cases e with
  | normal => exact other hq
  | exit id => exact other hq
  | goto l => exact other hq
  | ret =>
    simp only [] at hq
    split at hq
    · rename_i v hv
      exact ⟨trivial, v, hv, hq⟩
    · exact hq.elim
/-- The same of pieces in a row, of which the last state is made general. -/
def segP {ρ : Type} (E : Env) (o : Out ρ) (n : Nat) (fn : Func) (cs : List Code) (st : St) (f : X × St → Option (List Nat × List Nat)) (gs : List (Nat × G)) (bs : List GB) (news : List (TypeId × NK)) : Tree (St ⊕ Option (ρ × Pr)) :=
  (iterP E o n fn cs st f).bind fun q => match q with
    | .inl (.normal, s) => match genSt gs bs news s with
      | some s' => .leaf (.inl s')
      | none => .fail
    | .inl _ => .fail
    | .inr a => .leaf (.inr a)

/-! ## tables -/

theorem range_getD {α : Type} (d : α) : ∀ (xs : List α) (n : Nat), xs.length = n → (List.range n).map (fun i => xs.getD i d) = xs := by
  intro xs n h
  subst h
  refine List.ext_getElem (by simp) fun i h1 h2 => ?_
  simp [List.getD, h2]
def sixteen {α : Type} (f : Nat → α) : List α := [f 0, f 1, f 2, f 3, f 4, f 5, f 6, f 7, f 8, f 9, f 10, f 11, f 12, f 13, f 14, f 15]
theorem sixteen_eq {α : Type} (f : Nat → α) : sixteen f = (List.range 16).map f := rfl
/-- Sixteen elements of a kind. -/
structure Tab (k : RK) where
  xs : List k.ty
  len : xs.length = 16
theorem Tab.cells {k : RK} (x : Tab k) : sixteen (fun i => x.xs.getD i k.d) = x.xs := by
  rw [sixteen_eq]
  exact range_getD _ _ _ x.len
instance tabRow (k : RK) : Row (Tab k) where
  rd := fun cs => match h : rdRows k 16 cs with
    | some xs => some ⟨xs, (rdRows_ok k β0 h).2⟩
    | none => none
  cs := fun x => rowsC k (sixteen fun i => x.xs.getD i k.d)
  rd_ok := fun {cs x} h β => by
    split at h
    · rename_i xs hx
      cases h
      rw [(rdRows_ok k β hx).1]
      exact congrArg (fun z => (rowsC k z).map (gc β0)) (Tab.cells (⟨xs, (rdRows_ok k β0 hx).2⟩ : Tab k)).symm
    · cases h
  cs_ok := fun x β => rowsC_gc k _ β
  cs_id := fun x => rowsC_id k _

theorem vcLenFr (xs : List Fr) : 0 + xs.length * 4 ≤ (rowsC RK.fr xs).length ∧ 0 < 4 := ⟨by rw [rowsC_fr]; omega, by decide⟩
theorem vcIdxFr {xs : List Fr} {n : Nat} (h : n < xs.length) : ((0 : Int) ≤ (n : Int) ∧ (n : Int) < (xs.length : Int)) ∧ 0 + xs.length * 4 ≤ (rowsC RK.fr xs).length ∧ 0 < 4 ∧ 0 = 0 := ⟨⟨by omega, by omega⟩, by rw [rowsC_fr]; omega, by decide, rfl⟩
theorem vcGetFr {xs : List Fr} {n : Nat} (h : n < xs.length) : 0 + (n : Int).toNat < xs.length := by omega
theorem vcAllFr {xs : List Fr} (h : xs.length < topLen) : 0 + xs.length * 4 ≤ (rowsC RK.fr xs).length ∧ 0 = 0 ∧ xs.length < 1125899906842624 ∧ 0 = 0 ∧ 4 = 4 := ⟨by rw [rowsC_fr]; omega, rfl, h, rfl, rfl⟩
theorem wholeAppFr {xs : List Fr} {c : Nat} (h : xs.length = c) : List.take (mulNn c (4 / 4)) (List.drop 0 xs) = xs := by
  rw [mulNn_eq, List.drop_zero, ← h, Nat.div_self (by decide), Nat.mul_one, List.take_length]
theorem wholeTakeFr {xs : List Fr} {c : Nat} (h : xs.length = c) : List.take c (List.drop 0 xs) = xs := by
  rw [List.drop_zero, ← h, List.take_length]
theorem vcLenG1 (xs : List Pg1) : 0 + xs.length * 13 ≤ (rowsC RK.g1 xs).length ∧ 0 < 13 := ⟨by rw [rowsC_g1]; omega, by decide⟩
theorem vcIdxG1 {xs : List Pg1} {n : Nat} (h : n < xs.length) : ((0 : Int) ≤ (n : Int) ∧ (n : Int) < (xs.length : Int)) ∧ 0 + xs.length * 13 ≤ (rowsC RK.g1 xs).length ∧ 0 < 13 ∧ 0 = 0 := ⟨⟨by omega, by omega⟩, by rw [rowsC_g1]; omega, by decide, rfl⟩
theorem vcGetG1 {xs : List Pg1} {n : Nat} (h : n < xs.length) : 0 + (n : Int).toNat < xs.length := by omega
theorem vcAllG1 {xs : List Pg1} (h : xs.length < topLen) : 0 + xs.length * 13 ≤ (rowsC RK.g1 xs).length ∧ 0 = 0 ∧ xs.length < 1125899906842624 ∧ 0 = 0 ∧ 13 = 13 := ⟨by rw [rowsC_g1]; omega, rfl, h, rfl, rfl⟩
theorem wholeAppG1 {xs : List Pg1} {c : Nat} (h : xs.length = c) : List.take (mulNn c (13 / 13)) (List.drop 0 xs) = xs := by
  rw [mulNn_eq, List.drop_zero, ← h, Nat.div_self (by decide), Nat.mul_one, List.take_length]
theorem wholeTakeG1 {xs : List Pg1} {c : Nat} (h : xs.length = c) : List.take c (List.drop 0 xs) = xs := by
  rw [List.drop_zero, ← h, List.take_length]
theorem vcLenG2 (xs : List Pg2) : 0 + xs.length * 25 ≤ (rowsC RK.g2 xs).length ∧ 0 < 25 := ⟨by rw [rowsC_g2]; omega, by decide⟩
theorem vcIdxG2 {xs : List Pg2} {n : Nat} (h : n < xs.length) : ((0 : Int) ≤ (n : Int) ∧ (n : Int) < (xs.length : Int)) ∧ 0 + xs.length * 25 ≤ (rowsC RK.g2 xs).length ∧ 0 < 25 ∧ 0 = 0 := ⟨⟨by omega, by omega⟩, by rw [rowsC_g2]; omega, by decide, rfl⟩
theorem vcGetG2 {xs : List Pg2} {n : Nat} (h : n < xs.length) : 0 + (n : Int).toNat < xs.length := by omega
theorem vcAllG2 {xs : List Pg2} (h : xs.length < topLen) : 0 + xs.length * 25 ≤ (rowsC RK.g2 xs).length ∧ 0 = 0 ∧ xs.length < 1125899906842624 ∧ 0 = 0 ∧ 25 = 25 := ⟨by rw [rowsC_g2]; omega, rfl, h, rfl, rfl⟩
theorem wholeAppG2 {xs : List Pg2} {c : Nat} (h : xs.length = c) : List.take (mulNn c (25 / 25)) (List.drop 0 xs) = xs := by
  rw [mulNn_eq, List.drop_zero, ← h, Nat.div_self (by decide), Nat.mul_one, List.take_length]
theorem wholeTakeG2 {xs : List Pg2} {c : Nat} (h : xs.length = c) : List.take c (List.drop 0 xs) = xs := by
  rw [List.drop_zero, ← h, List.take_length]
theorem vcLenDuo (xs : List Duo) : 0 + xs.length * 38 ≤ (rowsC RK.duo xs).length ∧ 0 < 38 := ⟨by rw [rowsC_duo]; omega, by decide⟩
theorem vcIdxDuo {xs : List Duo} {n : Nat} (h : n < xs.length) : ((0 : Int) ≤ (n : Int) ∧ (n : Int) < (xs.length : Int)) ∧ 0 + xs.length * 38 ≤ (rowsC RK.duo xs).length ∧ 0 < 38 ∧ 0 = 0 := ⟨⟨by omega, by omega⟩, by rw [rowsC_duo]; omega, by decide, rfl⟩
theorem vcGetDuo {xs : List Duo} {n : Nat} (h : n < xs.length) : 0 + (n : Int).toNat < xs.length := by omega
theorem vcAllDuo {xs : List Duo} (h : xs.length < topLen) : 0 + xs.length * 38 ≤ (rowsC RK.duo xs).length ∧ 0 = 0 ∧ xs.length < 1125899906842624 ∧ 0 = 0 ∧ 38 = 38 := ⟨by rw [rowsC_duo]; omega, rfl, h, rfl, rfl⟩
theorem wholeAppDuo {xs : List Duo} {c : Nat} (h : xs.length = c) : List.take (mulNn c (38 / 38)) (List.drop 0 xs) = xs := by
  rw [mulNn_eq, List.drop_zero, ← h, Nat.div_self (by decide), Nat.mul_one, List.take_length]
theorem wholeTakeDuo {xs : List Duo} {c : Nat} (h : xs.length = c) : List.take c (List.drop 0 xs) = xs := by
  rw [List.drop_zero, ← h, List.take_length]
theorem take_snoc {α : Type} (xs : List α) (d : α) {j : Nat} (h : j < xs.length) : xs.take (j + 1) = xs.take j ++ [xs.getD j d] := by
  rw [List.take_add_one, List.getD, List.getElem?_eq_getElem h]
  rfl
theorem of_not_false {b : Bool} (h : (!b) = false) : b = true := by
  cases b
  · cases h
  · rfl
theorem zero_add_nat (j : Nat) : 0 + (j : Int).toNat = j := by omega

end Go.Proofs.Ytchlamfdofpolaa
