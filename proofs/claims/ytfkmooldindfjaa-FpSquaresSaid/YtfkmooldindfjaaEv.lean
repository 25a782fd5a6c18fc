/- The executor, part v: new slices as answers. -/
import Derived.Test.YtfkmooldindfjaaEu
set_option linter.unusedSimpArgs false
set_option linter.unusedVariables false
namespace Go.Proofs.Ytfkmooldindfjaa
open Go.RowKit

theorem add_none {a : Addr} (h : a.spot = none) : a.add 0 = a := by
  unfold Addr.add
  split <;> simp_all

/-- A slice that a call has made, of such cells. -/
def NewSl (ty : TypeId) (w w' : World) (v : Value) (vs : List Value) : Prop :=
  ∃ base cap, v = .slice base vs.length cap ∧ match base with
    | none => vs = [] ∧ cap = 0
    | some a => a.off = 0 ∧ a.spot = none ∧ w.heap.size ≤ a.block ∧ ∃ cur, w'.heap[a.block]? = some (.cells cur ty (0, 0)) ∧ cur.size = cap ∧ cap ≤ maxLen ∧ vs.length ≤ cap ∧
        ∀ (i : Nat) (u : Value), vs[i]? = some u → cur[i]? = some u

theorem HRel.newNil {w0 : World} {β : Nat → Pl} {h : Heap} {w w' : World} (r : HRel w0 β h w) {id : Nat} (hid : h id = .un) (hb : Below w.heap.size w w') (ty : TypeId) (esz : Nat) (hz : esz ≠ 0) (body : Body) (hbody : body.cells = []) :
    HRel w0 (upd β id ⟨none, 0⟩) (upd h id (.live ⟨true, ty, esz, body⟩)) w' := by
  have hgr : Grows h (upd h id (.live ⟨true, ty, esz, body⟩)) := Grows.upd _ _ (by simp)
  have r := r.mono hb
  refine ⟨r.below, fun i c hc => ?_, fun i j c d hc hd hne hco hdo hbase => ?_, fun i c hc x hx => ?_⟩
  · by_cases e : i = id
    · subst e
      rw [upd_same] at hc
      cases hc
      unfold BlkOk
      rw [upd_same]
      exact ⟨hbody, rfl, hz⟩
    · rw [upd_ne _ _ e] at hc
      have hbk := r.blk i c hc
      unfold BlkOk at hbk ⊢
      rw [upd_ne _ _ e]
      cases ha : (β i).base with
      | none => rw [ha] at hbk; exact hbk
      | some a =>
        rw [ha] at hbk
        refine ⟨hbk.1, fun j x hj => ?_, hbk.2.2⟩
        rw [gc_upd (r.okc i c hc x (List.mem_of_getElem? hj)) hid]
        exact hbk.2.1 j x hj
  · by_cases e : i = id
    · subst e; rw [upd_same] at hbase; exact absurd rfl hbase
    · rw [upd_ne _ _ e] at hc hbase
      by_cases e2 : j = id
      · subst e2
        rw [upd_ne _ _ e, upd_same]
        intro h
        cases ha : (β i).base with
        | none => exact hbase ha
        | some a => simp [blockOf, ha] at h
      · rw [upd_ne _ _ e2] at hd
        rw [upd_ne _ _ e, upd_ne _ _ e2]
        exact r.sep i j c d hc hd hne hco hdo hbase
  · by_cases e : i = id
    · subst e; rw [upd_same] at hc; cases hc; rw [hbody] at hx; cases hx
    · rw [upd_ne _ _ e] at hc; exact (r.okc i c hc x hx).grow hgr

theorem NewSl.eff {ty : TypeId} {w w' : World} {v : Value} {cs : List Cell} (hf : NewSl ty w w' v (cs.map (gc β0))) {w0 : World} {β : Nat → Pl} {h : Heap} (hr : HRel w0 β h w) {id : Nat} (hid : h id = .un) (hb : Below w.heap.size w w')
    {body : Body} (hbody : body.cells = cs) (hcs : ∀ c ∈ cs, c.idOf = none) {n : Nat} (hn : n = cs.length) (kn : Bool) :
    EffOk w0 β h id (.one (.c (.slc id 0 n 1 (.of 0) kn))) (newL id (some ⟨true, ty, 1, body⟩)) v w' := by
  obtain ⟨base, cap, rfl, hbase⟩ := hf
  have hok : okv (updL h (newL id (some ⟨true, ty, 1, body⟩))) (.one (.c (.slc id 0 n 1 (.of 0) kn))) := by
    intro i hi
    cases hi
    simp [newL, updL, upd_same]
  subst hn
  cases base with
  | none =>
    obtain ⟨h0, rfl⟩ := hbase
    have h0 : cs = [] := by simpa using h0
    subst h0
    exact ⟨⟨none, 0⟩, by simp [gv, g1, gc, upd_same], hr.newNil hid hb ty 1 (by simp) body hbody, hok⟩
  | some a =>
    obtain ⟨h1, h2, h3, cur, h4, h5, h6, h7, h8⟩ := hbase
    have ha : a = ⟨a.block, 0, none⟩ := by cases a; simp_all
    refine ⟨⟨some ⟨a.block, 0, none⟩, cap⟩, ?_, ?_, hok⟩
    · simp only [gv, g1, gc, upd_same, RC.val, Nat.sub_zero, List.length_map]
      rw [← ha, add_none h2]
    · refine hr.new hid hb a.block cap ty 1 body cur h3 h4 (fun i c hc => ?_) (by rw [hbody, h5]; simpa using h7) (fun _ => ⟨by omega, h6⟩) (fun e => by cases e) (fun c hc => okc_none (hcs c (by rw [← hbody]; exact hc)))
      rw [hbody] at hc
      rw [h8 i (gc β0 c) (by rw [List.getElem?_map, hc]; rfl)]
      exact congrArg some (gc_congr fun j hj => by rw [hcs c (List.mem_of_getElem? hc)] at hj; cases hj)

/-- A slice that lies in a block of the call's own, from its start on. -/
theorem NewSl.of_own {w w' : World} {β : Nat → Pl} {hp : Heap} (hr : HRel w β hp w') {i : Nat} {ty : TypeId} {esz : Nat} {body : Body} (hi : hp i = .live ⟨true, ty, esz, body⟩) {len : Nat} {rc : RC} {kn : Bool}
    (hlen : len ≤ body.cells.length) (hk : (esz = 1 ∧ rc = .of 0) ∨ (esz = 0 ∧ ∃ n, rc = .kn n ∧ n = body.cells.length ∧ n ≤ maxLen)) :
    NewSl ty w w' (gv β (.one (.c (.slc i 0 len 1 rc kn)))) ((body.cells.take len).map (gc β)) := by
  have hb := hr.blk i _ hi
  unfold BlkOk at hb
  have hl : ((body.cells.take len).map (gc β)).length = len := by rw [List.length_map, List.length_take]; omega
  cases ha : (β i).base with
  | none =>
    rw [ha] at hb
    have h0 : body.cells = [] := hb.1
    rw [h0] at hlen
    obtain rfl : len = 0 := by simpa using hlen
    exact ⟨none, 0, by simp [gv, g1, gc, ha], by simp, rfl⟩
  | some a =>
    rw [ha] at hb
    obtain ⟨q0, q1, q2, q3, q4⟩ := hb
    obtain ⟨r1, r2, cur, r3, r4, r5, r6⟩ := q4 rfl
    simp only [] at r3 r4 r5 r6
    have hadd : a.add 0 = a := by unfold Addr.add; split <;> simp_all
    have cap : rc.val (β i) = cur.size ∧ cur.size ≤ maxLen := by
      rcases hk with ⟨rfl, rfl⟩ | ⟨rfl, n, rfl, h1, h2⟩
      · obtain ⟨s1, s2⟩ := r5 (by simp)
        simp only [RC.val]
        omega
      · have := r6 rfl
        simp only [RC.val] at *
        omega
    refine ⟨some a, cur.size, by simp only [gv, g1, gc, ha, hadd, hl, cap.1], r2, q0, r1, cur, r3, rfl, cap.2, by rw [hl]; exact Nat.le_trans hlen r4, fun j u hu => ?_⟩
    have hjl : j < len := by
      rcases Nat.lt_or_ge j len with h | h
      · exact h
      · rw [List.getElem?_eq_none (by rw [hl]; exact h)] at hu; cases hu
    rw [List.getElem?_map, List.getElem?_take, if_pos hjl] at hu
    cases hc : body.cells[j]? with
    | none => rw [hc] at hu; cases hu
    | some c =>
      rw [hc] at hu
      cases hu
      have := q1 j c hc
      unfold World.cell? at this
      rw [cell_add, r3] at this
      have hsp : (a.add j).spot = none := by unfold Addr.add; split <;> simp_all
      have hoff : (a.add j).off = j := by unfold Addr.add; split <;> simp_all
      simp only [hsp, Option.isSome_none, Bool.false_eq_true, if_false, hoff] at this
      exact this

/-- A slice of so many cells of a kind, as an answer. -/
def resSlR (α : Type) [Row α] (ty : TypeId) (n : Nat) (hn : ∀ x : α, n = (Row.cs x).length) : Res α where
  wr := fun id x => .one (.c (.slc id 0 n 1 (.of 0) true))
  new := fun x => some ⟨true, ty, 1, .row (Row.cs x)⟩
  is := fun w w' v x => NewSl ty w w' v ((Row.cs x).map (gc β0))
  ok := fun {w0 β h w w' id v x} hr hid hb hf => hf.eff hr hid hb rfl (Row.cs_id x) (hn x) true

/-- How it is read off a run. -/
def outSlR (α : Type) [Row α] (ty : TypeId) (n : Nat) (hn : ∀ x : α, n = (Row.cs x).length) : Out α where
  res := resSlR α ty n hn
  rd := fun hp v => match v with
    | .one (.c (.slc i 0 len 1 rc _)) => match hpS hp i with
      | .live ⟨true, ty', esz, .row cs⟩ => match Row.rd (α := α) (cs.take len), Nat.beq ty' ty, leB len cs.length, esz, rc with
        | some x, true, true, 1, .of 0 => some (x, .t)
        | some x, true, true, 0, .kn m => match Nat.beq m cs.length && leB m maxLen with
          | true => some (x, .t)
          | false => none
        | _, _, _, _, _ => none
      | _ => none
    | _ => none
  ok := fun {w β hp w' v x p} e hp' hr hok => by
    split at e
    · rename_i i len rc kn
      split at e
      · rename_i ty' esz cs hi
        split at e
        · rename_i y hx ht hl
          cases e
          have ht := Nat.eq_of_beq_eq_true ht
          subst ht
          have := NewSl.of_own (kn := kn) hr hi (Nat.le_of_ble_eq_true hl) (.inl ⟨rfl, rfl⟩)
          simp only [Body.cells, Row.rd_ok hx β] at this
          exact this
        · rename_i y m hx ht hl
          split at e
          · rename_i hm
            cases e
            have ht := Nat.eq_of_beq_eq_true ht
            subst ht
            simp only [Bool.and_eq_true] at hm
            have := NewSl.of_own (kn := kn) hr hi (Nat.le_of_ble_eq_true hl) (.inr ⟨rfl, m, rfl, Nat.eq_of_beq_eq_true hm.1, Nat.le_of_ble_eq_true hm.2⟩)
            simp only [Body.cells, Row.rd_ok hx β] at this
            exact this
          · cases e
        · cases e
      · cases e
    · cases e

/-- A slice of any length, as an answer. -/
def resSl {α : Type} (el : El α) (ty : TypeId) : Res (List α) where
  wr := fun id xs => .one (.c (.slc id 0 xs.length 1 (.of 0) false))
  new := fun xs => some ⟨true, ty, 1, el.body xs⟩
  is := fun w w' v xs => NewSl ty w w' v (xs.map fun x => gc β0 (el.cell x))
  ok := fun {w0 β h w w' id v x} hr hid hb hf => by
    refine NewSl.eff (cs := x.map el.cell) (by rw [List.map_map]; exact hf) hr hid hb (el.body_ok x) (fun c hc => ?_) (by simp) false
    simp only [List.mem_map] at hc
    obtain ⟨y, _, rfl⟩ := hc
    exact el.cell_id y

/-- How it is read off a run. -/
def outSl {α : Type} (el : El α) (ty : TypeId) : Out (List α) where
  res := resSl el ty
  rd := fun hp v => match v with
    | .one (.c .nils) => some ([], .t)
    | .one (.c (.slc i 0 len 1 (.of 0) kn)) => match hpS hp i with
      | .live ⟨true, ty', 1, body⟩ => match Nat.beq ty' ty with
        | true => match el.un body with
          | some xs => some (xs.take len, .p (len ≤ xs.length))
          | none => match body, kn with
            | .row cs, true => match mapO el.of (cs.take len), leB len cs.length with
              | some ys, true => some (ys, .t)
              | _, _ => none
            | _, _ => none
        | false => none
      | _ => none
    | _ => none
  ok := fun {w β hp w' v x p} e hp' hr hok => by
    split at e
    · cases e
      exact ⟨none, 0, rfl, rfl, rfl⟩
    · rename_i i len kn
      split at e
      · rename_i ty' body hi
        split at e
        · rename_i ht
          have ht := Nat.eq_of_beq_eq_true ht
          subst ht
          split at e
          · rename_i xs hxs
            cases e
            have hc := el.un_ok _ _ hxs
            have := NewSl.of_own (kn := kn) hr hi (len := len) (by rw [hc, List.length_map]; exact hp') (.inl ⟨rfl, rfl⟩)
            rw [hc] at this
            have e2 : ((List.map el.cell xs).take len).map (gc β) = (xs.take len).map fun x => gc β0 (el.cell x) := by
              rw [← List.map_take, List.map_map]
              exact List.map_congr_left fun x _ => el.cell_ok x β
            rw [e2] at this
            exact this
          · split at e
            · rename_i cs hno
              split at e
              · rename_i ys hys hl
                cases e
                have := NewSl.of_own (kn := true) hr hi (len := len) (Nat.le_of_ble_eq_true hl) (.inl ⟨rfl, rfl⟩)
                have e2 : (cs.take len).map (gc β) = x.map fun x => gc β0 (el.cell x) := (mapO_map (fun c y e => (el.of_ok c y e β).symm) hys).symm
                simp only [Body.cells, e2] at this
                exact this
              · cases e
            · cases e
        · cases e
      · cases e
    · cases e

end Go.Proofs.Ytfkmooldindfjaa
