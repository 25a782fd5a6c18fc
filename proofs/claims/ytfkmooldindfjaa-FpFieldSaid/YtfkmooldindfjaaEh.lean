/- The executor, part h: more of what one operation does: stores, places, parts, slices. -/
import Derived.Test.YtfkmooldindfjaaEg
set_option linter.unusedSimpArgs false
set_option linter.unusedVariables false
namespace Go.Proofs.Ytfkmooldindfjaa
open Go.RowKit

/-- A block of the call's own, opened. -/
theorem HRel.own {w0 : World} {β : Nat → Pl} {h : Heap} {w : World} (r : HRel w0 β h w) {i : Nat} {b : Blk} (hi : h i = .live b) (ho : b.own = true) (hne : b.body.cells ≠ [] ∨ b.esz = 0) :
    ∃ g cur, (β i).base = some ⟨g, 0, none⟩ ∧ w.heap[g]? = some (.cells cur b.ty (0, 0)) ∧ b.body.cells.length ≤ cur.size ∧ (∀ (j : Nat) (c : Cell), b.body.cells[j]? = some c → cur[j]? = some (gc β c)) := by
  obtain ⟨a, ha, hs⟩ := r.base_some hi hne
  have hb := r.blk i b hi
  unfold BlkOk at hb
  rw [ha] at hb
  obtain ⟨h0, h1, h2, h3, h4⟩ := hb
  obtain ⟨h5, h6, cur, h7, h8, _⟩ := h4 ho
  obtain ⟨g, off, sp⟩ := a
  simp only at h6 hs
  subst h6 hs
  refine ⟨g, cur, ha, h7, h8, fun j c hj => ?_⟩
  have := h1 j c hj
  rw [Addr.add_lit, Nat.zero_add, cell_of_row w g j cur b.ty (0, 0) h7] at this
  exact this

theorem splice_get {f : Cell → Value} {cs vs : List Cell} {cur : List Value} {off : Nat} (hc : ∀ (j : Nat) (c : Cell), cs[j]? = some c → cur[j]? = some (f c)) (hl : off + vs.length ≤ cs.length) :
    ∀ (j : Nat) (c : Cell), (cs.take off ++ vs ++ cs.drop (off + vs.length))[j]? = some c → (cur.take off ++ vs.map f ++ cur.drop (off + vs.length))[j]? = some (f c) := by
  have hcl : cs.length ≤ cur.length := by
    rcases Nat.lt_or_ge cur.length cs.length with h | h
    · have := hc cur.length cs[cur.length] (by simp [h])
      simp at this
    · exact h
  intro j c hj
  rw [List.append_assoc, List.getElem?_append] at hj ⊢
  have e1 : (cs.take off).length = off := by simp; omega
  have e2 : (cur.take off).length = off := by simp; omega
  rw [e1] at hj
  rw [e2]
  by_cases h1 : j < off
  · rw [if_pos h1] at hj ⊢
    rw [List.getElem?_take_of_lt h1] at hj ⊢
    exact hc j c hj
  · rw [if_neg h1] at hj ⊢
    rw [List.getElem?_append] at hj ⊢
    rw [List.length_map]
    by_cases h2 : j - off < vs.length
    · rw [if_pos h2] at hj ⊢
      rw [List.getElem?_map, hj]
      rfl
    · rw [if_neg h2] at hj ⊢
      rw [List.getElem?_drop] at hj ⊢
      exact hc _ c hj

theorem splice_length {α : Type} (cs vs : List α) (off : Nat) (hl : off + vs.length ≤ cs.length) : (cs.take off ++ vs ++ cs.drop (off + vs.length)).length = cs.length := by
  simp; omega

theorem leB_le {a b : Nat} (h : leB a b = true) : a ≤ b := Nat.le_of_ble_eq_true h

/-- What a body with a piece written is. -/
theorem Body.put_spec {b : Body} {off : Nat} {vs : List Cell} {r : Cond Body} (h : b.put off vs = some r) (hp : r.pre.holds) (β : Nat → Pl) :
    off + vs.length ≤ b.cells.length ∧ ∃ us, us.map (gc β) = vs.map (gc β) ∧ us.length = vs.length ∧ r.val.cells = b.cells.take off ++ us ++ b.cells.drop (off + us.length) ∧ (∀ hp : Heap, (∀ c ∈ vs, okc hp c) → ∀ c ∈ us, okc hp c) := by
  unfold Body.put at h
  split at h
  · rename_i cs
    split at h
    · rename_i hl
      cases h
      exact ⟨leB_le hl, vs, rfl, rfl, rfl, fun _ H => H⟩
    · cases h
  · rename_i xs
    split at h
    · rename_i c
      split at h
      · rename_i v hv
        cases h
        simp only [Pr.holds] at hp
        refine ⟨by simp [Body.cells]; omega, [.u64 v], by simp only [List.map_cons, List.map_nil, toU_gc β hv]; rfl, rfl, ?_, fun _ _ c hc => by simp at hc; subst hc; exact okc_none rfl⟩
        simp only [Body.cells]
        rw [List.set_eq_take_append_cons_drop, if_pos hp]
        simp [List.map_take, List.map_drop]
      · cases h
    · cases h
  · rename_i xs
    split at h
    · rename_i c
      split at h
      · rename_i v hv
        cases h
        simp only [Pr.holds] at hp
        refine ⟨by simp [Body.cells]; omega, [.u8 v], by simp only [List.map_cons, List.map_nil, toB_gc β hv]; rfl, rfl, ?_, fun _ _ c hc => by simp at hc; subst hc; exact okc_none rfl⟩
        simp only [Body.cells]
        rw [List.set_eq_take_append_cons_drop, if_pos hp]
        simp [List.map_take, List.map_drop]
      · cases h
    · cases h

theorem map_oneCell (β : Nat → Pl) (vs : List Cell) : ∀ v ∈ vs.map (gc β), v.oneCell' = true := by
  intro v hv
  obtain ⟨c, _, rfl⟩ := List.mem_map.1 hv
  exact gc_one β c

theorem run_actStore {P : Program} {w0 : World} {β : Nat → Pl} {h : Heap} {w : World} (r : HRel w0 β h w) {t : TypeId} {i off : Nat} {x : AV} {e : Eff} (he : actStore P h t i off x = some e) (hp : e.pre.holds)
    (hx : okv h x) : ∃ w', (Instr.storeAt t (gc β (.ptr i off)) (gv β x)).run P w = .ok () w' ∧ HRel w0 β (updL h e.wr) w' ∧ e.val = AV.undef := by
  unfold actStore at he
  split at he
  · rename_i b ti vs hb hti hvs
    have hi := liveOf_some hb
    split at he
    · rename_i v0 vs0 ho hsz
      split at he
      · rename_i pre body hput
        cases he
        have hpre : Pr.holds pre := hp
        obtain ⟨hl, us, hu1, hu2, hu3, hu4⟩ := Body.put_spec hput hpre β
        have hne : b.body.cells ≠ [] := by
          intro e0; rw [e0] at hl; simp at hl
        obtain ⟨g, cur, hbase, hg, hle, hcells⟩ := r.own hi ho (.inl hne)
        have hst := run_storeCells_at P g off b.ty (us.map (gc β)) 0 cur w hg (by simp [hu2]; simp at hl; omega) (map_oneCell β us)
        simp only [Nat.add_zero] at hst
        have hvc := cellsOfV_gv hvs β
        have hvc2 := cellsOfV_ok hvs hx
        simp only [beq_iff_eq] at hsz
        refine ⟨_, ?_, r.put hi ho hbase body cur (cur.toList.take off ++ us.map (gc β) ++ cur.toList.drop (off + us.length)).toArray hg ?_ ?_ ?_ ?_, rfl⟩
        · simp only [gc, hbase, Option.map_some, Instr.storeAt, Instr.sureAddr, Sem.run_bind, Sem.run_pure, Result.andThen_ok, storeVar, run_sizeOf hti, hvc, Addr.add_lit, Nat.zero_add]
          have e1 : (List.map (gc β) (v0 :: vs0)).toArray.size = P.cellsOf t := by simp [Program.cellsOf, hti, ← hsz]
          rw [if_neg (by rw [e1]; simp)]
          rw [← hu1, hst]
          simp
        · have := splice_length cur.toList (us.map (gc β)) off (by simp [hu2] at hl ⊢; omega)
          simp only [List.length_map, Array.length_toList] at this
          simp only [List.size_toArray]
          exact this
        · rw [hu3]
          exact splice_length _ _ _ (by rw [hu2]; exact hl)
        · intro j c hj
          rw [hu3] at hj
          have := splice_get (f := gc β) (cur := cur.toList) (fun j c hj => by simpa using hcells j c hj) (by rw [hu2]; exact hl) j c hj
          simpa using this
        · intro c hc
          rw [hu3] at hc
          rcases List.mem_append.1 hc with hc | hc
          · rcases List.mem_append.1 hc with hc | hc
            · exact r.okc i b hi c (List.mem_of_mem_take hc)
            · exact hu4 h hvc2 c hc
          · exact r.okc i b hi c (List.mem_of_mem_drop hc)
      · cases he
    · cases he
  · cases he

/-! ## places -/

theorem idx_spec {ix : AV} {len : Nat} {kn : Bool} {r : Cond Nat} (h : idx ix len kn = some r) (hp : r.pre.holds) (β : Nat → Pl) : ∃ k n, gv β ix = .int k n ∧ 0 ≤ n ∧ n < (len : Int) ∧ r.val = n.toNat ∧ r.val < len := by
  unfold idx at h
  split at h
  · rename_i k n
    split at h
    · split at h
      · rename_i h0 h1
        cases h
        have := leB_le h1
        simp at h0
        exact ⟨k, n, rfl, h0, by omega, rfl, by show n.toNat < len; omega⟩
      · cases h
    · split at h
      · rename_i h0
        cases h
        simp only [Pr.holds] at hp
        simp at h0
        exact ⟨k, n, rfl, h0, by omega, rfl, by show n.toNat < len; omega⟩
      · cases h
  · split at h
    · rename_i k n hc
      cases h
      simp only [Pr.holds] at hp
      exact ⟨k, n, toI_gc β hc, hp.1, hp.2, rfl, by show n.toNat < len; omega⟩
    · cases h
  · cases h

theorem addr_add_add (a : Addr) (hs : a.spot = none) (m n : Nat) : (a.add m).add n = a.add (m + n) := by
  obtain ⟨b, o, s⟩ := a
  simp only at hs
  subst hs
  simp only [Addr.add_lit, Nat.add_assoc]

theorem gc_ptr {β : Nat → Pl} {i off : Nat} {a : Addr} (ha : (β i).base = some a) : gc β (.ptr i off) = .pointer (some (a.add off)) := by simp [gc, ha]

theorem okc_ptr {h : Heap} {i off : Nat} {b : Blk} (hi : h i = .live b) : okc h (.ptr i off) := by
  intro j hj; simp [Cell.idOf] at hj; subst hj; rw [hi]; simp

theorem okc_slc {h : Heap} {i off len sz : Nat} {rc : RC} {kn : Bool} {b : Blk} (hi : h i = .live b) : okc h (.slc i off len sz rc kn) := by
  intro j hj; simp [Cell.idOf] at hj; subst hj; rw [hi]; simp

theorem run_actIndexAddr {P : Program} {w0 : World} {β : Nat → Pl} {h : Heap} {w : World} (r : HRel w0 β h w) {t : TypeId} {x ix : AV} {e : Eff} (he : actIndexAddr P h t x ix = some e) (hp : e.pre.holds) :
    (Instr.indexAt t (gv β x) (gv β ix)).run P w = .ok (gv β e.val) w ∧ okv h e.val ∧ e.wr = [] := by
  unfold actIndexAddr at he
  split at he
  · rename_i i off n el hu
    split at he
    · rename_i ei b pre k hei hb hix
      have hi := liveOf_some hb
      split at he
      · rename_i hz
        cases he
        obtain ⟨kk, m, e1, h0, h1, e2, h2⟩ := idx_spec hix hp β
        simp only at e2 h2
        obtain ⟨a, ha, hs⟩ := r.base_some hi (.inr hz)
        refine ⟨?_, okc_ptr hi, rfl⟩
        have hsz : P.cellsOf el = ei.size := by simp [Program.cellsOf, hei]
        simp only [Instr.indexAt]
        rw [e1]
        simp only [asIntOf, Sem.run_bind, Sem.run_pure, Result.andThen_ok, run_underlying hu, gv, g1, gc_ptr ha, Instr.sureAddr, h0, h1, and_self, if_true,
          run_sizeOf hei, addr_add_add a hs, hsz, e2]
      · cases he
    · cases he
  · rename_i i off len sz rc kn el hu
    have main : ∀ (ei : TypeInfo) (b : Blk) (pre : Pr) (k : Nat), P.info? el = some ei → h i = .live b → idx ix len kn = some ⟨pre, k⟩ → pre.holds → ei.size = sz → off + len * sz ≤ b.body.cells.length → 0 < sz →
        (Instr.indexAt t (gv β (.one (.c (.slc i off len sz rc kn)))) (gv β ix)).run P w = .ok (gv β (.one (.c (.ptr i (off + k * sz))))) w := by
      intro ei b pre k hei hi hix hp hes hl hs0
      obtain ⟨kk, m, e1, h0, h1, e2, h2⟩ := idx_spec hix hp β
      simp only at e2 h2
      have hne : b.body.cells ≠ [] := by
        intro e0
        rw [e0] at hl
        simp only [List.length_nil] at hl
        have : 0 < len * sz := Nat.mul_pos (by omega) hs0
        omega
      obtain ⟨a, ha, hs⟩ := r.base_some hi (.inl hne)
      have hsz : P.cellsOf el = sz := by simp [Program.cellsOf, hei, hes]
      simp only [Instr.indexAt]
      rw [e1]
      simp only [asIntOf, Sem.run_bind, Sem.run_pure, Result.andThen_ok, run_underlying hu, gv, g1, gc_ptr ha, gc, ha, h0, h1, and_self, if_true,
        run_sizeOf hei, addr_add_add a hs, hsz, e2, Option.map_some]
    split at he
    · rename_i ei b pre k hei hb hix
      have hi := liveOf_some hb
      split at he
      · rename_i _ cs hes hbody
        split at he
        · rename_i n hle
          cases he
          exact ⟨main ei b pre k hei hi hix hp (beq_iff_eq.1 hes) (by rw [hbody]; exact leB_le hle) (by omega), okc_ptr hi, rfl⟩
        · cases he
      · rename_i hes _
        cases he
        obtain ⟨hp1, hp2⟩ := Pr.and_holds hp
        simp only [Pr.holds] at hp2
        simp only [beq_iff_eq] at hes
        exact ⟨main ei b pre k hei hi hix hp1 hes hp2.1 hp2.2, okc_ptr hi, rfl⟩
      · cases he
    · cases he
  · cases he

theorem run_actFieldAddr {P : Program} {w0 : World} {β : Nat → Pl} {h : Heap} {w : World} (r : HRel w0 β h w) {s : TypeId} {x : AV} {f : Nat} {e : Eff} (he : actFieldAddr P h s x f = some e) :
    (Instr.fieldAt s (gv β x) f).run P w = .ok (gv β e.val) w ∧ okv h e.val ∧ e.wr = [] := by
  unfold actFieldAddr at he
  split at he
  · rename_i i off fs hu
    split at he
    · rename_i fl b hfl hb
      have hi := liveOf_some hb
      split at he
      · rename_i fi hfi hz
        split at he
        · cases he
        · rename_i n hn
          cases he
          obtain ⟨a, ha, hs⟩ := r.base_some hi (.inr hz)
          refine ⟨?_, okc_ptr hi, rfl⟩
          have hsz : P.cellsOf fl.type = n + 1 := by simp [Program.cellsOf, hfi, hn]
          simp only [Instr.fieldAt, Sem.run_bind, run_underlying hu, Result.andThen_ok, hfl, gv, g1, gc_ptr ha, Instr.sureAddr, Sem.run_pure, fieldPlace, run_sizeOf hfi, hsz, Nat.add_eq_zero_iff, Nat.succ_ne_zero, and_false, if_false, addr_add_add a hs]
      · cases he
    · cases he
  · cases he

theorem run_actPart {P : Program} {β : Nat → Pl} {t : TypeId} {xs : List Cell} {off : Nat} {v : AV} (h : actPart P t xs off = some v) (w : World) :
    (part t (xs.map (gc β)).toArray off).run P w = .ok (gv β v) w ∧ (∀ hp : Heap, (∀ c ∈ xs, okc hp c) → okv hp v) := by
  unfold actPart at h
  split at h
  · rename_i ti g hti hg
    simp only [] at h
    split at h
    · rename_i hl
      split at h
      · rename_i v1 hv
        cases h
        obtain ⟨e1, e2⟩ := pack_some hv β
        have hsz : P.cellsOf t = ti.size := by simp [Program.cellsOf, hti]
        simp only [beq_iff_eq, List.length_take, List.length_drop] at hl
        refine ⟨?_, fun hp H => e2 hp fun c hc => H c (List.mem_of_mem_drop (List.mem_of_mem_take hc))⟩
        have hn : g = false → P.cellsOf t = 1 := by
          rintro rfl
          unfold pack at hv
          simp only [] at hv
          split at hv
          · rename_i c hc
            rw [hsz, ← hl]
            have := congrArg List.length hc
            simp only [List.length_take, List.length_drop, List.length_cons, List.length_nil] at this
            omega
          · cases hv
        by_cases h0 : P.cellsOf t = 0
        · cases g with
          | false => have := hn rfl; omega
          | true =>
            unfold part
            rw [Sem.run_bind, run_isAgg hg]
            simp only [gv, e1, Result.andThen_ok, if_true, Sem.run_bind, run_sizeOf hti, h0, packV]
            rw [hsz] at h0
            simp [h0]
        · have := run_part (P := P) hg (xs.map (gc β)) off hti hn (by simp; omega) w
          rw [this, map_drop_take, hsz]
          simp only [gv, e1]
      · cases h
    · cases h
  · cases h

theorem run_actField {P : Program} {β : Nat → Pl} {h : Heap} {t : TypeId} {x : AV} {f : Nat} {e : Eff} (he : actField P t x f = some e) (hx : okv h x) (w : World) :
    (Instr.field t (gv β x) f).run P w = .ok (gv β e.val) w ∧ okv h e.val ∧ e.wr = [] := by
  unfold actField at he
  split at he
  · rename_i xs fs hu
    split at he
    · rename_i fl hfl
      split at he
      · rename_i v hv
        cases he
        obtain ⟨e1, e2⟩ := run_actPart (β := β) hv w
        refine ⟨?_, e2 h hx, rfl⟩
        simp only [Instr.field, Sem.run_bind, run_underlying hu, Result.andThen_ok, hfl, gv, g1, asAgg, Sem.run_pure] at e1 ⊢
        exact e1
      · cases he
    · cases he
  · cases he

theorem run_actIndex {P : Program} {β : Nat → Pl} {h : Heap} {t : TypeId} {x ix : AV} {e : Eff} (he : actIndex P t x ix = some e) (hp : e.pre.holds) (hx : okv h x) (w : World) :
    (Instr.index t (gv β x) (gv β ix)).run P w = .ok (gv β e.val) w ∧ okv h e.val ∧ e.wr = [] := by
  unfold actIndex at he
  split at he
  · rename_i xs n el hu
    split at he
    · rename_i pre k hix
      split at he
      · rename_i v hv
        cases he
        obtain ⟨kk, m, e1, h0, h1, e2, h2⟩ := idx_spec hix hp β
        simp only at e2
        obtain ⟨e3, e4⟩ := run_actPart (β := β) hv w
        refine ⟨?_, e4 h hx, rfl⟩
        have hie : ∃ ei, P.info? el = some ei := by
          unfold actPart at hv
          split at hv
          · exact ⟨_, by assumption⟩
          · cases hv
        obtain ⟨ei, hei⟩ := hie
        simp only [Instr.index]
        rw [e1]
        simp only [asIntOf, Sem.run_bind, Sem.run_pure, Result.andThen_ok, run_underlying hu, gv, g1, h0, h1, and_self, if_true, run_sizeOf hei, ← e2]
        exact e3
      · cases he
    · cases he
  · cases he

theorem run_actExtract {P : Program} {β : Nat → Pl} {h : Heap} {x : AV} {k : Nat} {e : Eff} (he : actExtract x k = some e) (hx : okv h x) (w : World) :
    (Instr.extract (gv β x) k).run P w = .ok (gv β e.val) w ∧ okv h e.val ∧ e.wr = [] := by
  unfold actExtract at he
  split at he
  · rename_i vs
    split at he
    · rename_i v hv
      cases he
      refine ⟨?_, hx v (List.mem_of_getElem? hv), rfl⟩
      simp [Instr.extract, gv, hv, pureE]
    · cases he
  · cases he

end Go.Proofs.Ytfkmooldindfjaa
