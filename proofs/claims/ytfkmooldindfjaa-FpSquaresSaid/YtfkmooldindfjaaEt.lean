/- The executor, part t: slices as arguments. -/
import Derived.Test.YtfkmooldindfjaaEs
set_option linter.unusedSimpArgs false
set_option linter.unusedVariables false
namespace Go.Proofs.Ytfkmooldindfjaa
open Go.RowKit

/-- A kind of elements, of one cell each. -/
structure El (α : Type) where
  cell : α → Cell
  of : Cell → Option α
  body : List α → Body
  un : Body → Option (List α)
  of_ok : ∀ c x, of c = some x → ∀ β, gc β c = gc β0 (cell x)
  cell_ok : ∀ x β, gc β (cell x) = gc β0 (cell x)
  cell_id : ∀ x, (cell x).idOf = none
  body_ok : ∀ xs, (body xs).cells = xs.map cell
  un_ok : ∀ b xs, un b = some xs → b.cells = xs.map cell

def eU64 : El UInt64 where
  cell := .u64
  of := toU
  body := .u64s
  un := fun b => match b with | .u64s xs => some xs | _ => none
  of_ok := fun c x h β => toU_gc β h
  cell_ok := fun x β => rfl
  cell_id := fun x => rfl
  body_ok := fun xs => rfl
  un_ok := fun b xs h => by
    split at h
    · cases h; rfl
    · cases h

def eU8 : El UInt8 where
  cell := .u8
  of := toB
  body := .u8s
  un := fun b => match b with | .u8s xs => some xs | _ => none
  of_ok := fun c x h β => toB_gc β h
  cell_ok := fun x β => rfl
  cell_id := fun x => rfl
  body_ok := fun xs => rfl
  un_ok := fun b xs h => by
    split at h
    · cases h; rfl
    · cases h

/-- No slice is longer. -/
def topLen : Nat := 1125899906842624

/-- A slice of such elements, that lies in a world. -/
def SlIs {α : Type} (el : El α) (w : World) (v : Value) (xs : List α) : Prop :=
  ∃ base cap, v = .slice base xs.length cap ∧ xs.length < topLen ∧ match base with
    | none => xs = [] ∧ cap = 0
    | some a => a.spot = none ∧ xs.length ≤ cap ∧ (xs ≠ [] → a.block < w.heap.size) ∧ ∀ (i : Nat) (x : α), xs[i]? = some x → w.cell? (a.add i) = some (gc β0 (el.cell x))

def slRd {α : Type} (el : El α) (h : Heap) (v : AV) : Option (List α × Pr × List Nat) :=
  match v with
  | .one (.c .nils) => some ([], .t, [])
  | .one (.c (.slc i off len sz rc kn)) => match Nat.beq sz 1, liveOf h i with
    | true, some b => match el.un b.body with
      | some xs => some ((xs.drop off).take len, .p (off + len ≤ xs.length ∧ len < topLen ∧ rc.fits off len 1 b.esz), [i])
      | none => match b.body, kn with
        | .row cs, true => match mapO el.of ((cs.drop off).take len) with
          | some ys => match leB (off + len) cs.length, Nat.blt len topLen, rc.fitsB off len 1 b.esz with
            | true, true, true => some (ys, .t, [i])
            | _, _, _ => none
          | none => none
        | _, _ => none
    | _, _ => none
  | _ => none

theorem RC.fits_of {rc : RC} {off len sz esz : Nat} (h : rc.fitsB off len sz esz = true) : rc.fits off len sz esz := by
  cases rc with
  | kn n => exact Nat.le_of_ble_eq_true h
  | of k =>
    simp only [RC.fitsB, Bool.and_eq_true] at h
    exact ⟨Nat.eq_of_beq_eq_true h.1, Nat.eq_of_beq_eq_true h.2⟩

theorem SlIs.of_view {α : Type} {el : El α} {w0 : World} {β : Nat → Pl} {h : Heap} {w : World} (r : HRel w0 β h w) {i off len : Nat} {rc : RC} {kn : Bool} {b : Blk} (hb : h i = .live b) {ys : List α}
    (hys : ((b.body.cells.drop off).take len).map (gc β) = ys.map fun x => gc β0 (el.cell x)) (hl : ys.length = len) (hlen : off + len ≤ b.body.cells.length) (ht : len < topLen) (hf : rc.fits off len 1 b.esz) :
    SlIs el w (gv β (.one (.c (.slc i off len 1 rc kn)))) ys := by
  have hbk := r.blk i b hb
  cases ha : (β i).base with
  | none =>
    unfold BlkOk at hbk
    rw [ha] at hbk
    rw [hbk.1] at hlen
    obtain rfl : len = 0 := by simp at hlen; omega
    obtain rfl : ys = [] := List.length_eq_zero_iff.1 hl
    exact ⟨none, 0, by simp [gv, g1, gc, ha], by simp [topLen], rfl, rfl⟩
  | some a =>
    have hbk' := hbk
    unfold BlkOk at hbk
    rw [ha] at hbk
    obtain ⟨q0, q1, q2, q3, q4⟩ := hbk
    refine ⟨some (a.add off), rc.val (β i), by simp [gv, g1, gc, ha, hl], by omega, ?_, ?_, fun hne => ?_, fun j x hx => ?_⟩
    · unfold Addr.add; split <;> simp_all
    · rw [hl]
      cases rc with
      | kn n => exact hf
      | of k =>
        obtain ⟨f1, f2⟩ := hf
        simp only [RC.val]
        have := q3 (by rw [f2]; simp)
        rw [f2] at this
        omega
    · rw [cell_add]
      have hlt : a.block < w.heap.size := hbk'.lt r.below ha (.inr fun e => by
        rw [e] at hlen
        simp at hlen
        exact hne (List.length_eq_zero_iff.1 (by omega)))
      exact hlt
    · refine r.read hb ha off j _ ?_
      have e1 : (ys.map fun x => gc β0 (el.cell x))[j]? = some (gc β0 (el.cell x)) := by rw [List.getElem?_map, hx]; rfl
      rw [← hys, List.getElem?_map, List.getElem?_take] at e1
      rw [List.getElem?_map]
      split at e1
      · exact e1
      · cases e1

def argSl {α : Type} (el : El α) : Arg (List α) where
  rd := slRd el
  is := SlIs el
  ok := fun {w0 β h w v x p rs} e hp hr hok => by
    unfold slRd at e
    split at e
    · cases e
      exact ⟨none, 0, rfl, by simp [topLen], rfl, rfl⟩
    · rename_i i off len sz rc kn
      split at e
      · rename_i b hsz hb
        have hsz := Nat.eq_of_beq_eq_true hsz
        subst hsz
        have hb := liveOf_some hb
        split at e
        · rename_i xs hxs
          cases e
          obtain ⟨h1, h2, h3⟩ := hp
          have hc := el.un_ok _ _ hxs
          refine SlIs.of_view hr hb ?_ (by simp; omega) (by rw [hc]; simpa using h1) h2 h3
          rw [hc, ← List.map_drop, ← List.map_take, List.map_map]
          exact List.map_congr_left fun x _ => el.cell_ok x β
        · split at e
          · rename_i cs hcs
            split at e
            · rename_i ys hys
              split at e
              · rename_i h1 h2 h3
                cases e
                have h1 : off + len ≤ cs.length := Nat.le_of_ble_eq_true h1
                have h2 : len < topLen := Nat.le_of_ble_eq_true h2
                have hlen := (mapO_get hys).1
                refine SlIs.of_view hr hb ?_ (by rw [hlen, List.length_take, List.length_drop]; omega) (by rw [hcs]; exact h1) h2 (RC.fits_of h3)
                · rw [hcs]
                  exact (mapO_map (fun c y e => (el.of_ok c y e β).symm) hys).symm
              · cases e
            · cases e
          · cases e
      · cases e
    · cases e
  near := fun {h h' v x p rs} e H => by
    unfold slRd at e ⊢
    split at e
    · exact e
    · rename_i i off len sz rc kn
      split at e
      · rename_i b hsz hb
        have hi : h i = h' i := H i (by
          split at e
          · cases e; simp
          · split at e
            · split at e
              · split at e
                · cases e; simp
                · cases e
              · cases e
            · cases e)
        have : liveOf h' i = liveOf h i := by unfold liveOf; rw [hi]
        simp only [this, hsz, hb]
        exact e
      · cases e
    · cases e

/-! ## running a function with slices -/

/-- A slice as an argument: a block as long. -/
def inHE {α : Type} (el : El α) (xs : List α) : HE := .live ⟨false, 0, 1, el.body xs⟩
def inV {α : Type} (i : Nat) (xs : List α) : AV := .one (.c (.slc i 0 xs.length 1 (.of 0) false))

theorem hpS_snoc (heap : List HE) (x : HE) : hpS (heap ++ [x]) = upd (hpS heap) heap.length x := by
  funext j
  rw [hpS_get]
  by_cases e : j = heap.length
  · subst e; simp [upd_same]
  · rw [upd_ne _ _ e, hpS_get]
    rcases Nat.lt_or_ge j heap.length with h | h
    · rw [List.getElem?_append_left h]
    · rw [List.getElem?_eq_none (by simp; omega), List.getElem?_eq_none h]

theorem hpS_un (heap : List HE) : hpS heap heap.length = .un := by rw [hpS_get, List.getElem?_eq_none (Nat.le_refl _)]; rfl

/-- One more slice. -/
theorem HRel.slice {α : Type} {el : El α} {w0 : World} {β : Nat → Pl} {heap : List HE} {w : World} (r : HRel w0 β (hpS heap) w) (hw : w0.heap.size = w.heap.size) {v : Value} {xs : List α} (h : SlIs el w v xs) :
    ∃ p, HRel w0 (upd β heap.length p) (hpS (heap ++ [inHE el xs])) w ∧ gv (upd β heap.length p) (inV heap.length xs) = v ∧ okv (hpS (heap ++ [inHE el xs])) (inV heap.length xs) := by
  obtain ⟨base, cap, rfl, ht, hb⟩ := h
  have hcells : (el.body xs).cells = xs.map el.cell := el.body_ok xs
  refine ⟨⟨base, cap⟩, ?_, ?_, ?_⟩
  · rw [hpS_snoc]
    refine r.ext (hpS_un heap) _ _ rfl (fun c hc => ?_) ?_
    · simp only [hcells, List.mem_map] at hc
      obtain ⟨x, _, rfl⟩ := hc
      exact okc_none (el.cell_id x)
    · unfold BlkOk
      rw [upd_same]
      cases base with
      | none =>
        obtain ⟨rfl, rfl⟩ := hb
        exact ⟨by rw [hcells]; rfl, rfl, by simp⟩
      | some a =>
        obtain ⟨b0, b1, b2, b3⟩ := hb
        refine ⟨b0, fun i c hc => ?_, fun _ hne => ?_, fun _ => by simp only [hcells]; simpa using b1, fun e => by cases e⟩
        · simp only [hcells, List.getElem?_map] at hc
          cases hx : xs[i]? with
          | none => rw [hx] at hc; cases hc
          | some x =>
            rw [hx] at hc
            cases hc
            rw [b3 i x hx]
            exact congrArg some (el.cell_ok x _).symm
        · simp only [hcells] at hne
          have := b2 (by rintro rfl; exact hne rfl)
          omega
  · simp only [inV, gv, g1, gc, upd_same]
    cases base with
    | none =>
      obtain ⟨rfl, rfl⟩ := hb
      rfl
    | some a =>
      have b0 := hb.1
      simp only [RC.val, Nat.sub_zero]
      have : a.add 0 = a := by unfold Addr.add; split <;> simp_all
      rw [this]
  · intro i hi
    cases hi
    rw [hpS_snoc, upd_same]
    simp [inHE]

end Go.Proofs.Ytfkmooldindfjaa
