/- The executor, part w: slices of so many cells as arguments. -/
import Derived.Test.YtfkmooldindfjaaEv
set_option linter.unusedSimpArgs false
set_option linter.unusedVariables false
namespace Go.Proofs.Ytfkmooldindfjaa
open Go.RowKit

/-- A slice of such values, that lies in a world. -/
def SlVals (w : World) (v : Value) (vs : List Value) : Prop :=
  ∃ base cap, v = .slice base vs.length cap ∧ vs.length < topLen ∧ match base with
    | none => vs = [] ∧ cap = 0
    | some a => a.spot = none ∧ vs.length ≤ cap ∧ (vs ≠ [] → a.block < w.heap.size) ∧ ∀ (i : Nat) (u : Value), vs[i]? = some u → w.cell? (a.add i) = some u

theorem SlVals.of_view {w0 : World} {β : Nat → Pl} {h : Heap} {w : World} (r : HRel w0 β h w) {i off len : Nat} {rc : RC} {kn : Bool} {b : Blk} (hb : h i = .live b)
    (hlen : off + len ≤ b.body.cells.length) (ht : len < topLen) (hf : rc.fits off len 1 b.esz) : SlVals w (gv β (.one (.c (.slc i off len 1 rc kn)))) (((b.body.cells.drop off).take len).map (gc β)) := by
  have hbk := r.blk i b hb
  have hl : (((b.body.cells.drop off).take len).map (gc β)).length = len := by rw [List.length_map, List.length_take, List.length_drop]; omega
  cases ha : (β i).base with
  | none =>
    unfold BlkOk at hbk
    rw [ha] at hbk
    rw [hbk.1] at hlen
    obtain rfl : len = 0 := by simp at hlen; omega
    exact ⟨none, 0, by simp [gv, g1, gc, ha], by simp [topLen], by simp, rfl⟩
  | some a =>
    have hbk' := hbk
    unfold BlkOk at hbk
    rw [ha] at hbk
    obtain ⟨q0, q1, q2, q3, q4⟩ := hbk
    refine ⟨some (a.add off), rc.val (β i), by simp only [gv, g1, gc, ha, hl], by omega, ?_, ?_, fun hne => ?_, fun j u hu => ?_⟩
    · unfold Addr.add; split <;> simp_all
    · rw [hl]
      cases rc with
      | kn n => exact hf
      | of k =>
        obtain ⟨f1, f2⟩ := hf
        simp only [RC.val]
        have := q3 (by rw [f2]; simp)
        rw [f2] at this
        omega
    · rw [cell_add]
      exact hbk'.lt r.below ha (.inr fun e => by
        rw [e] at hlen
        simp at hlen
        exact hne (List.length_eq_zero_iff.1 (by rw [hl]; omega)))
    · refine r.read hb ha off j u ?_
      rw [List.getElem?_map, List.getElem?_take] at hu
      rw [List.getElem?_map]
      split at hu
      · exact hu
      · cases hu

theorem SlVals.named {w0 : World} {β : Nat → Pl} {heap : List HE} {w : World} (r : HRel w0 β (hpS heap) w) (hw : w0.heap.size = w.heap.size) {v : Value} {cs : List Cell} (hcs : ∀ c ∈ cs, c.idOf = none)
    (h : SlVals w v (cs.map (gc β0))) {n : Nat} (hn : n = cs.length) (kn : Bool) :
    ∃ p, HRel w0 (upd β heap.length p) (hpS (heap ++ [.live ⟨false, 0, 1, .row cs⟩])) w ∧ gv (upd β heap.length p) (.one (.c (.slc heap.length 0 n 1 (.of 0) kn))) = v ∧
      okv (hpS (heap ++ [.live ⟨false, 0, 1, .row cs⟩])) (.one (.c (.slc heap.length 0 n 1 (.of 0) kn))) := by
  obtain ⟨base, cap, rfl, ht, hb⟩ := h
  subst hn
  refine ⟨⟨base, cap⟩, ?_, ?_, ?_⟩
  · rw [hpS_snoc]
    refine r.ext (hpS_un heap) _ _ rfl (fun c hc => okc_none (hcs c hc)) ?_
    unfold BlkOk
    rw [upd_same]
    cases base with
    | none =>
      obtain ⟨h0, rfl⟩ := hb
      have h0 : cs = [] := by simpa using h0
      subst h0
      exact ⟨rfl, rfl, by simp⟩
    | some a =>
      obtain ⟨b0, b1, b2, b3⟩ := hb
      refine ⟨b0, fun i c hc => ?_, fun _ hne => ?_, fun _ => by simp only [Body.cells]; simpa using b1, fun e => by cases e⟩
      · simp only [Body.cells] at hc
        rw [b3 i (gc β0 c) (by rw [List.getElem?_map, hc]; rfl)]
        exact congrArg some (gc_congr fun j hj => by rw [hcs c (List.mem_of_getElem? hc)] at hj; cases hj)
      · have := b2 (by simpa [Body.cells] using hne)
        omega
  · simp only [gv, g1, gc, upd_same, List.length_map]
    cases base with
    | none =>
      obtain ⟨h0, rfl⟩ := hb
      have h0 : cs = [] := by simpa using h0
      subst h0
      rfl
    | some a => simp only [RC.val, Nat.sub_zero, add_none hb.1]
  · intro i hi
    cases hi
    rw [hpS_snoc, upd_same]
    simp

def argSlR (α : Type) [Row α] : Arg α where
  rd := fun h v => match v with
    | .one (.c (.slc i off len sz rc true)) => match Nat.beq sz 1, liveOf h i with
      | true, some ⟨own, ty, esz, .row cs⟩ => match Row.rd (α := α) ((cs.drop off).take len) with
        | some x => match leB (off + len) cs.length, Nat.blt len topLen, rc.fitsB off len 1 esz with
          | true, true, true => some (x, .t, [i])
          | _, _, _ => none
        | none => none
      | _, _ => none
    | _ => none
  is := fun w v x => SlVals w v ((Row.cs x).map (gc β0))
  ok := fun {w0 β h w v x p rs} e _ hr _ => by
    split at e
    · rename_i i off len sz rc
      split at e
      · rename_i own ty esz cs hsz hb
        have hsz := Nat.eq_of_beq_eq_true hsz
        subst hsz
        have hb := liveOf_some hb
        split at e
        · rename_i y hy
          split at e
          · rename_i h1 h2 h3
            cases e
            have := SlVals.of_view (kn := true) hr hb (Nat.le_of_ble_eq_true h1) (Nat.le_of_ble_eq_true h2) (RC.fits_of h3)
            simp only [Body.cells, Row.rd_ok hy β] at this
            exact this
          · cases e
        · cases e
      · cases e
    · cases e
  near := fun {h h' v x p rs} e H => by
    split at e
    · rename_i i off len sz rc
      split at e
      · rename_i own ty esz cs hsz hb
        split at e
        · rename_i y hy
          split at e
          · rename_i h1 h2 h3
            cases e
            have hi : h i = h' i := H i (by simp)
            have hl : liveOf h' i = liveOf h i := by unfold liveOf; rw [hi]
            simp only [hl, hb, hsz, hy, h1, h2, h3]
          · cases e
        · cases e
      · cases e
    · cases e

def inpSlR (α : Type) [Row α] (n : Nat) (hn : ∀ x : α, n = (Row.cs x).length) : Inp α where
  arg := argSlR α
  av := fun k _ => .one (.c (.slc k 0 n 1 (.of 0) true))
  hes := fun x => [.live ⟨false, 0, 1, .row (Row.cs x)⟩]
  fact := fun _ => True
  known := fun _ => trivial
  intro := fun {w0 β heap w v x} hr hw hv => by
    obtain ⟨p, h1, h2, h3⟩ := SlVals.named hr hw (Row.cs_id x) hv (hn x) true
    exact ⟨_, h1, h2, h3, fun i hi => upd_ne _ _ (by omega)⟩

end Go.Proofs.Ytfkmooldindfjaa
