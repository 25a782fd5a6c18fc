/- The executor, part k: every operation that it takes. -/
import Derived.Test.YtfkmooldindfjaaEj
import Derived.Laws.MakeOwn
set_option linter.unusedSimpArgs false
set_option linter.unusedVariables false
namespace Go.Proofs.Ytfkmooldindfjaa
open Go.RowKit

theorem OpRuns.value {P : Program} {o : Oper} {ρ : Operand → Value} {w w' : World} {R : Value → World → Prop} {s : Sem Value} (he : execOp ρ o = (do pure (.value (← s)) : Sem Next)) {v : Value}
    (hs : s.run P w = .ok v w') (hr : R v w') : OpRuns P o ρ w R := .inl ⟨v, w', by rw [he, Sem.run_bind, hs]; rfl, hr⟩

theorem OpRuns.unit {P : Program} {o : Oper} {ρ : Operand → Value} {w w' : World} {R : Value → World → Prop} {s : Sem Unit} (he : execOp ρ o = (do s; pure .skip : Sem Next))
    (hs : s.run P w = .ok () w') (hr : R Go.undef w') : OpRuns P o ρ w R := .inr (.inl ⟨w', by rw [he, Sem.run_bind, hs]; rfl, hr⟩)

theorem mapO_ev {ev : Operand → Option AV} {ρ : Operand → Value} {β : Nat → Pl} {h : Heap} : ∀ {xs : List Operand} {vs : List AV}, mapO ev xs = some vs → (∀ x ∈ xs, ∀ v, ev x = some v → gv β v = ρ x ∧ okv h v) →
    vs.map (gv β) = xs.map ρ ∧ ∀ v ∈ vs, okv h v
  | [], vs, e, _ => by cases e; simp
  | x :: xs, vs, e, H => by
    simp only [mapO] at e
    split at e
    · rename_i y ys hy hys
      cases e
      obtain ⟨h1, h2⟩ := mapO_ev hys (fun z hz => H z (by simp [hz]))
      obtain ⟨h3, h4⟩ := H x (by simp) y hy
      refine ⟨by simp [h1, h3], fun v hv => ?_⟩
      rcases List.mem_cons.1 hv with rfl | hv
      · exact h4
      · exact h2 v hv
    · cases e

theorem ofBool_id (b : Bool) : (ofBool b).idOf = none := by cases b <;> rfl
theorem mkB_id (k n r : Bool) : (mkB k n r).idOf = none := by
  cases k
  · rfl
  · exact ofBool_id _
theorem sumC_id (l : Bool) (k : IntKind) (r : Int ⊕ Bool) : (sumC l k r).idOf = none := by
  cases r <;> cases l <;> first | rfl | exact ofBool_id _

theorem u64Op_id {op : BinOp} {x y : UInt64} {c : Cell} (h : u64Op op x y = some c) : c.idOf = none := by cases op <;> simp [u64Op] at h <;> subst h <;> rfl
theorem u32Op_id {op : BinOp} {x y : UInt32} {c : Cell} (h : u32Op op x y = some c) : c.idOf = none := by cases op <;> simp [u32Op] at h <;> subst h <;> rfl
theorem u8Op_id {op : BinOp} {x y : UInt8} {c : Cell} (h : u8Op op x y = some c) : c.idOf = none := by cases op <;> simp [u8Op] at h <;> subst h <;> rfl

theorem genOp_id {op : BinOp} {a b : Cell} {r : Cond Cell} (h : genOp op a b = some r) : r.val.idOf = none := by
  unfold genOp at h
  split at h
  · split at h
    · cases h
    · split at h
      · split at h
        · split at h
          · cases h
          · cases h; dsimp only; apply sumC_id
        · cases h; dsimp only; apply sumC_id
        · cases h; dsimp only; apply sumC_id
      · cases h
  · cases h

theorem shiftC_id {right : Bool} {a b : Cell} {r : Cond Cell} (h : shiftC right a b = some r) : r.val.idOf = none := by
  unfold shiftC at h
  split at h
  · cases a with
    | lit k x => cases b <;> (simp only [Option.some.injEq] at h; subst h; rfl)
    | u64 x => simp only [Option.some.injEq] at h; subst h; rfl
    | u32 x => simp only [Option.some.injEq] at h; subst h; rfl
    | u8 x => simp only [Option.some.injEq] at h; subst h; rfl
    | bit x => simp only [Option.some.injEq] at h; subst h; rfl
    | int k x => simp only [Option.some.injEq] at h; subst h; rfl
    | _ => simp at h
  · cases h

theorem numOp_id {op : BinOp} {a b : Cell} {r : Cond Cell} (h : numOp op a b = some r) : r.val.idOf = none := by
  unfold numOp at h
  split at h
  · exact shiftC_id h
  · exact shiftC_id h
  · split at h
    · split at h
      · unfold litOp at h
        split at h
        · cases h
        · split at h
          · cases h; dsimp only; apply sumC_id
          · cases h
      · cases h
    · split at h
      · split at h
        · rename_i c hc; cases h; exact u64Op_id hc
        · exact genOp_id h
      · split at h
        · unfold cell1 at h
          split at h
          · rename_i c hc; cases h; exact u8Op_id hc
          · cases h
        · split at h
          · unfold cell1 at h
            split at h
            · rename_i c hc; cases h; exact u32Op_id hc
            · cases h
          · exact genOp_id h

theorem binC_id {P : Program} {op : BinOp} {t : TypeId} {a b : AV} {r : Cond Cell} (h : binC P op t a b = some r) : r.val.idOf = none := by
  unfold binC at h
  split at h
  · split at h
    · rename_i r' hr; cases h; exact numOp_id hr
    · split at h
      · cases h
      · split at h
        · cases h; rfl
        · split at h
          · cases h; exact mkB_id _ _ _
          · cases h
  · split at h
    · cases h
    · split at h
      · cases h
      · split at h
        · cases h; exact mkB_id _ _ _
        · cases h
  · cases h

theorem unC_id {op : UnOp} {a : AV} {r : Cell} (h : unC op a = some r) : r.idOf = none := by
  unfold unC at h
  split at h
  · split at h
    · split at h <;> cases h <;> rfl
    · split at h
      · cases h; rfl
      · split at h
        · cases h; rfl
        · cases h
    · split at h <;> cases h <;> rfl
    · cases h
  · cases h

theorem convI_id {k : IntKind} {x r : Cell} (h : convI k x = some r) : r.idOf = none := by
  cases x <;> cases k <;> simp [convI] at h <;> subst h <;> rfl

theorem convC_id {P : Program} {src dst : TypeId} {a : AV} {r : Cell} (h : convC P src dst a = some r) : r.idOf = none := by
  unfold convC at h
  split at h
  · split at h
    · split at h
      · cases h
      · exact convI_id h
    · cases h
  · cases h

theorem partsC_spec {β : Nat → Pl} {h : Heap} {ev : Operand → Option AV} {ρ : Operand → Value} : ∀ (l : List (Nat × Operand)) (ps : List (Nat × List Cell)), (∀ p ∈ l, ∀ v, ev p.2 = some v → gv β v = ρ p.2 ∧ okv h v) → partsC ev l = some ps →
    (l.map fun p => (p.1, ρ p.2)).map (fun p => (p.1, p.2.cells)) = ps.map (fun p => (p.1, (p.2.map (gc β)).toArray)) ∧ ∀ p ∈ ps, ∀ c ∈ p.2, okc h c := by
  intro l
  induction l with
  | nil => intro ps _ hl; cases hl; simp
  | cons p l ih =>
    intro ps H hl
    unfold partsC at hl
    simp only [mapO] at hl
    split at hl
    · rename_i q qs hq hqs
      cases hl
      obtain ⟨i1, i2⟩ := ih qs (fun p' hp' => H p' (by simp [hp'])) hqs
      split at hq
      · rename_i v hv
        split at hq
        · rename_i vs hvs
          cases hq
          obtain ⟨g1', g2'⟩ := H p (by simp) v hv
          refine ⟨?_, fun p' hp' => ?_⟩
          · simp only [List.map_cons, i1]
            rw [← g1', cellsOfV_gv hvs β]
          · rcases List.mem_cons.1 hp' with rfl | hp'
            · exact cellsOfV_ok hvs g2'
            · exact i2 p' hp'
        · cases hq
      · cases hq
    · cases hl

theorem fillC_len {place : Nat → Option (Nat × Nat)} : ∀ {ps : List (Nat × List Cell)} {zc cs : List Cell}, fillC place zc ps = some cs → cs.length = zc.length
  | [], zc, cs, h => by cases h; rfl
  | (i, vs) :: ps, zc, cs, h => by
    simp only [fillC] at h
    split at h
    · cases h
    · rename_i off size hp
      split at h
      · rename_i hc
        simp only [Bool.and_eq_true] at hc
        have c1 := Nat.eq_of_beq_eq_true hc.1
        have c2 := leB_le hc.2
        rw [fillC_len h]
        simp only [List.length_append, List.length_take, List.length_drop]
        omega
      · cases h

theorem cyc_length (z : List Cell) (n : Nat) : (cyc z n).length = n := by simp [cyc]

theorem cyc_made {z : List Cell} {zv : Array Value} {β : Nat → Pl} (hz : zv = (z.map (gc β)).toArray) (h0 : 0 < z.length) (n : Nat) : madeCells zv n = ((cyc z n).map (gc β)).toArray := by
  subst hz
  apply Array.ext'
  simp only [madeCells, cyc, Array.toList_map, List.toList_toArray, List.map_map, Array.toList_range]
  refine List.map_congr_left fun i hi => ?_
  have hlt : i % z.length < z.length := Nat.mod_lt _ h0
  simp [hlt, List.getD_eq_getElem?_getD]

theorem cyc_ok {z : List Cell} {n : Nat} {h : Heap} (hz : ∀ c ∈ z, okc h c) : ∀ c ∈ cyc z n, okc h c := by
  intro c hc
  simp only [cyc, List.mem_map] at hc
  obtain ⟨i, _, rfl⟩ := hc
  rw [List.getD_eq_getElem?_getD]
  cases hg : z[i % z.length]? with
  | none => exact okc_none rfl
  | some x => exact hz x (List.mem_of_getElem? hg)

/-- A new row of elements behind a slice. -/
theorem EffOk.made {w0 : World} {β : Nat → Pl} {h : Heap} {w : World} (r : HRel w0 β h w) {id : Nat} (hid : h id = .un) (e : TypeId) (sz : Nat) (h0 : sz ≠ 0) (n m : Nat) (hm : m ≤ maxLen) (body : Body) (cur : Array Value)
    (hcur : cur.size = m * sz) (hbody : body.cells.length = m * sz) (hpre : ∀ (i : Nat) (c : Cell), body.cells[i]? = some c → cur[i]? = some (gc β c)) (hok : ∀ c ∈ body.cells, okc h c) (kn : Bool) :
    EffOk w0 β h id (.one (.c (.slc id 0 n sz (.of 0) kn))) [(id, .live ⟨true, e, sz, body⟩)] (.slice (some ⟨w.heap.size, 0, none⟩) n m) (w.alloc (.cells cur e)) := by
  refine ⟨⟨some ⟨w.heap.size, 0, none⟩, m⟩, ?_, ?_, ?_⟩
  · simp [gv, g1, gc, upd_same, Addr.add, RC.val]
  · exact r.new hid ((Below.refl _ _).alloc (Nat.le_refl _) _) w.heap.size m e sz body cur (Nat.le_refl _) (heap_alloc_new w _) hpre (by omega) (fun _ => ⟨hcur, hm⟩) (fun e => absurd e h0) hok
  · intro i hi
    simp [Cell.idOf] at hi
    subst hi
    simp [updL, upd_same]

theorem run_actBuildSlice {P : Program} {w0 : World} {β : Nat → Pl} {h : Heap} {w : World} (r : HRel w0 β h w) {id : Nat} (hid : h id = .un) {t : TypeId} {len : Nat} {parts : Array (Nat × Operand)} {ev : Operand → Option AV} {ρ : Operand → Value} {e : Eff}
    (he : actBuildSlice P id t len (partsC ev parts.toList) = some e) (hev : ∀ p ∈ parts.toList, ∀ v, ev p.2 = some v → gv β v = ρ p.2 ∧ okv h v) :
    ∃ v w', (Instr.buildSlice t len (parts.map fun (i, x) => (i, ρ x))).run P w = .ok v w' ∧ EffOk w0 β h id e.val e.wr v w' := by
  unfold actBuildSlice at he
  split at he
  · rename_i el ps ht hps
    split at he
    · rename_i ei z hi hz
      split at he
      · rename_i cs hc hcs
        cases he
        simp only [Bool.and_eq_true] at hc
        obtain ⟨⟨c1, c2⟩, c3⟩ := hc
        have c1 := leB_le c1
        have c2 := Nat.eq_of_beq_eq_true c2
        have c3 : 0 < ei.size := Nat.le_of_ble_eq_true c3
        obtain ⟨i', zv, hi', hzv, hzc⟩ := zeroC_spec hz β
        obtain rfl : ei = i' := by rw [hi] at hi'; cases hi'; rfl
        obtain ⟨q1, q2⟩ := partsC_spec parts.toList ps hev hps
        obtain ⟨f1, f2⟩ := fillC_spec hcs q1
        have hl := fillC_len hcs
        rw [cyc_length] at hl
        have hle : len ≤ 16777216 := Nat.le_trans (Nat.le_mul_of_pos_right len c3) c1
        refine ⟨_, _, ?_, EffOk.made r hid el ei.size (by omega) len len (by simp [maxLen]; omega) (.row cs) (cs.map (gc β)).toArray (by simpa using hl) hl (fun i c hc => by simp only [Body.cells] at hc; simp [hc]) (f2 h (cyc_ok (zeroC_ok hz h)) q2) true⟩
        have hn : ¬ 16777216 < len * ei.size := by omega
        have hparts : (parts.map fun (i, x) => (i, ρ x)).toList = parts.toList.map fun p => (p.1, ρ p.2) := by simp
        by_cases h0 : len * ei.size = 0
        · have hlen0 : len = 0 := by rcases Nat.mul_eq_zero.1 h0 with h | h <;> omega
          subst hlen0
          simp only [Nat.zero_mul, cyc, List.range_zero, List.map_nil] at f1
          have f1' : Instr.fill (fun i => some (i * ei.size, ei.size)) #[] (parts.toList.map fun p => (p.1, ρ p.2)) = some (cs.map (gc β)).toArray := f1
          simp [Instr.buildSlice, run_underlying ht, sizeOf, typeInfo, hi, newRow, Array.range_zero', f1']
        · have f1' : Instr.fill (fun i => some (i * ei.size, ei.size)) ((Array.range (len * ei.size)).map (zv.cells[· % zv.cells.size]!)) (parts.toList.map fun p => (p.1, ρ p.2)) = some (cs.map (gc β)).toArray := by
            have := cyc_made hzc (by omega) (len * ei.size)
            unfold madeCells at this
            rw [this]
            exact f1
          simp [Instr.buildSlice, run_underlying ht, sizeOf, typeInfo, hi, zeroValue, hzv, hn, h0, newRow, f1']
      · cases he
    · cases he
  · cases he

theorem symBody_spec {z : List Cell} {n : Nat} {body : Body} (h : symBody z n = some body) (β : Nat → Pl) : z.length = 1 ∧ body.cells.length = n ∧ body.cells.map (gc β) = (cyc z n).map (gc β) ∧ ∀ c ∈ body.cells, c.idOf = none := by
  unfold symBody at h
  split at h
  · cases h
    refine ⟨rfl, by simp [Body.cells], ?_, ?_⟩
    · apply List.ext_getElem?
      intro i
      simp only [Body.cells, List.map_map, List.getElem?_map, List.map_replicate, cyc, List.length_singleton, Nat.mod_one]
      rcases Nat.lt_or_ge i n with h | h
      · simp [List.getElem?_replicate, h, gc]
      · simp [List.getElem?_replicate, Nat.not_lt.2 h, List.getElem?_eq_none, h]
    · intro c hc
      simp only [Body.cells, List.map_replicate, List.mem_replicate] at hc
      rw [hc.2]; rfl
  · cases h
    refine ⟨rfl, by simp [Body.cells], ?_, ?_⟩
    · apply List.ext_getElem?
      intro i
      simp only [Body.cells, List.map_map, List.getElem?_map, List.map_replicate, cyc, List.length_singleton, Nat.mod_one]
      rcases Nat.lt_or_ge i n with h | h
      · simp [List.getElem?_replicate, h, gc]
      · simp [List.getElem?_replicate, Nat.not_lt.2 h, List.getElem?_eq_none, h]
    · intro c hc
      simp only [Body.cells, List.map_replicate, List.mem_replicate] at hc
      rw [hc.2]; rfl
  · cases h

theorem run_actMakeSlice {P : Program} {w0 : World} {β : Nat → Pl} {h : Heap} {w : World} (r : HRel w0 β h w) {id : Nat} (hid : h id = .un) {t : TypeId} {l c : AV} {e : Eff}
    (he : actMakeSlice P id t l c = some e) (hp : e.pre.holds) :
    ∃ v w', (Instr.makeSlice t (gv β l) (gv β c)).run P w = .ok v w' ∧ EffOk w0 β h id e.val e.wr v w' := by
  unfold actMakeSlice at he
  split at he
  · rename_i el ht
    split at he
    · rename_i ei z hi hz
      obtain ⟨i', zv, hi', hzv, hzc⟩ := zeroC_spec hz β
      obtain rfl : ei = i' := by rw [hi] at hi'; cases hi'; rfl
      split at he
      · rename_i kl n kc m
        split at he
        · rename_i hc
          cases he
          simp only [Bool.and_eq_true, decide_eq_true_eq] at hc
          obtain ⟨⟨⟨⟨⟨c1, c2⟩, c3⟩, c4⟩, c5⟩, c6⟩ := hc
          have c3 := leB_le c3
          have c4 := leB_le c4
          have c5 := Nat.eq_of_beq_eq_true c5
          have c6 : 0 < ei.size := Nat.le_of_ble_eq_true c6
          have hmt : m.toNat ≤ 16777216 := Nat.le_trans (Nat.le_mul_of_pos_right _ c6) c3
          obtain ⟨M, rfl⟩ := Int.eq_ofNat_of_zero_le (show 0 ≤ m by omega)
          simp only [Int.toNat_natCast] at *
          have c4' : (ei.bytes : Int) * (M : Int) ≤ 281474976710656 := by
            have : ((ei.bytes * M : Nat) : Int) ≤ 281474976710656 := by omega
            rwa [Int.natCast_mul] at this
          have hrun := run_make (P := P) w t el ei zv ht hi hzv kl kc n (M : Int) c1 c2 c4' (by omega)
          simp only [Int.toNat_natCast] at hrun
          refine ⟨_, _, hrun, EffOk.made r hid el ei.size (by omega) n.toNat M (by simp [maxLen]; omega) (.row (cyc z (M * ei.size))) _ (size_madeCells _ _) (cyc_length _ _) (fun i c hc => ?_) (cyc_ok (zeroC_ok hz h)) true⟩
          rw [cyc_made hzc (by omega)]
          simp only [Body.cells] at hc
          simp [hc]
        · cases he
      · rename_i a b _
        split at he
        · rename_i ka n kb m ha hb hsz
          split at he
          · rename_i body hbody
            cases he
            obtain ⟨p1, p2, p3, p4⟩ := hp
            have hsz := Nat.eq_of_beq_eq_true hsz
            obtain ⟨M, rfl⟩ := Int.eq_ofNat_of_zero_le (show 0 ≤ m by omega)
            simp only [Int.toNat_natCast] at *
            obtain ⟨s1, s2, s3, s4⟩ := symBody_spec hbody β
            have hrun := run_make (P := P) w t el ei zv ht hi hzv ka kb n (M : Int) p1 p2 p3 (by omega)
            simp only [Int.toNat_natCast, hsz, Nat.mul_one] at hrun
            have ea : gv β (.one (.c a)) = .int ka n := toI_gc β ha
            have eb : gv β (.one (.c b)) = .int kb (M : Int) := toI_gc β hb
            rw [ea, eb]
            refine ⟨_, _, hrun, EffOk.made r hid el 1 (by omega) n.toNat M (by simp [maxLen]; omega) body _ (by rw [size_madeCells]; omega) (by omega) (fun i c hc => ?_) (fun c hc => okc_none (s4 c hc)) false⟩
            rw [cyc_made hzc (by omega), ← s3]
            simp [hc]
          · cases he
        · cases he
      · cases he
    · cases he
  · cases he

theorem act_sound {E : Env} (hE : EnvOk E) {w0 : World} {β : Nat → Pl} {h : Heap} {w : World} (r : HRel w0 β h w) {id : Nat} (hid : h id = .un) {o : Oper} {ev : Operand → Option AV} {ρ : Operand → Value}
    (hev : ∀ x ∈ o.op.operands.toList, ∀ v, ev x = some v → gv β v = ρ x ∧ okv h v) {e : Eff} (he : act E id ev h o = some e) (hp : e.pre.holds) :
    OpRuns E.P o ρ w (EffOk w0 β h id e.val e.wr) := by
  have hpure : ∀ (c : Cell), c.idOf = none → EffOk w0 β h id (.one (.c c)) [] (gc β c) w := fun c hc => EffOk.pure r (okc_none hc)
  unfold act at he
  split at he
  case h_1 x hop =>
    split at he
    · rename_i v hv
      cases he
      obtain ⟨e1, e2⟩ := hev x (by rw [hop]; simp [Op.operands]) v hv
      exact .inl ⟨ρ x, w, by simp [execOp, hop], e1 ▸ EffOk.pure r e2⟩
    · cases he
  case h_2 x hop =>
    split at he
    · rename_i v hv
      cases he
      obtain ⟨e1, e2⟩ := hev x (by rw [hop]; simp [Op.operands]) v hv
      exact .inl ⟨ρ x, w, by simp [execOp, hop], e1 ▸ EffOk.pure r e2⟩
    · cases he
  case h_3 c a b hop =>
    split at he
    · rename_i cc hc
      obtain ⟨e1, e2⟩ := hev c (by rw [hop]; simp [Op.operands]) _ hc
      have ha := fun v hv => hev a (by rw [hop]; simp [Op.operands]) v hv
      have hb := fun v hv => hev b (by rw [hop]; simp [Op.operands]) v hv
      have go : ∀ (p : Bool) (u : Value), ρ c = .bool p → u = (if p then ρ a else ρ b) → (execOp ρ o).run E.P w = .ok (.value u) w := by
        intro p u h1 h2
        subst h2
        simp only [execOp, hop, h1, asBool]
        cases p <;> simp
      unfold actPick at he
      split at he
      · split at he
        · rename_i v hv
          cases he
          obtain ⟨e3, e4⟩ := ha v hv
          exact .inl ⟨ρ a, w, go true _ (by rw [← e1]; rfl) rfl, e3 ▸ EffOk.pure r e4⟩
        · cases he
      · split at he
        · rename_i v hv
          cases he
          obtain ⟨e3, e4⟩ := hb v hv
          exact .inl ⟨ρ b, w, go false _ (by rw [← e1]; rfl) rfl, e3 ▸ EffOk.pure r e4⟩
        · cases he
      · rename_i p
        split at he
        · rename_i x y hx hy
          split at he
          · rename_i bx bY hbx hby
            cases he
            obtain ⟨e3, _⟩ := ha _ hx
            obtain ⟨e5, _⟩ := hb _ hy
            have e3' : ρ a = .bool bx := by rw [← e3]; exact toBool_gc β hbx
            have e5' : ρ b = .bool bY := by rw [← e5]; exact toBool_gc β hby
            refine .inl ⟨_, w, go p _ (by rw [← e1]; rfl) rfl, ?_⟩
            have := hpure (.bool (match p with | true => bx | false => bY)) rfl
            cases p
            · simpa [gc, e5', cellE] using this
            · simpa [gc, e3', cellE] using this
          · cases he
        · cases he
      · cases he
    · cases he
  case h_4 t hop =>
    split at he
    · rename_i cs hcs
      cases he
      obtain ⟨i, z, hi, hz, hzc⟩ := zeroC_spec hcs β
      refine OpRuns.value (s := Instr.alloc t true (.tuple #[])) (by simp [execOp, hop]) ?_ (EffOk.alloc r hid t cs (zeroC_ok hcs h))
      simp only [Instr.alloc, zeroValue, typeInfo, Sem.run_bind, run_program, Result.andThen_ok, hi, Sem.run_pure, hz, newVar, newRow, run_newObj, hzc]
      rfl
    · cases he
  case h_5 t x hop =>
    split at he
    · rename_i v hv
      split at he
      · rename_i cs hcs
        cases he
        obtain ⟨e1, e2⟩ := hev x (by rw [hop]; simp [Op.operands]) v hv
        refine OpRuns.value (s := Instr.box t (ρ x)) (by simp [execOp, hop]) ?_ (EffOk.alloc r hid t cs (cellsOfV_ok hcs e2))
        rw [← e1]
        simp only [Instr.box, Sem.run_bind, newVar, newRow, run_newObj, Result.andThen_ok, Sem.run_pure, cellsOfV_gv hcs β]
        rfl
      · cases he
    · cases he
  case h_6 t parts hop =>
    obtain ⟨h1, h2, h3⟩ := run_actBuild (ρ := ρ) (h := h) (β := β) he (fun p hp' v hv => hev p.2 (by
      rw [hop]
      simp only [Op.operands]
      exact List.mem_map_of_mem hp') v hv) w
    refine OpRuns.value (by simp [execOp, hop]) h1 ?_
    rw [h3]
    exact EffOk.pure r h2
  case h_7 t a hop =>
    split at he
    · rename_i i off ha
      obtain ⟨e1, _⟩ := hev a (by rw [hop]; simp [Op.operands]) _ ha
      obtain ⟨h1, h2, h3⟩ := run_actLoad r he hp
      refine OpRuns.value (by simp only [execOp, hop, ← e1]; rfl) h1 ?_
      rw [h3]
      exact EffOk.pure r h2
    · cases he
  case h_8 t a x hop =>
    split at he
    · rename_i i off v ha hx
      obtain ⟨e1, _⟩ := hev a (by rw [hop]; simp [Op.operands]) _ ha
      obtain ⟨e2, e3⟩ := hev x (by rw [hop]; simp [Op.operands]) _ hx
      obtain ⟨w', h1, h2, h3⟩ := run_actStore r he hp e3
      refine OpRuns.unit (by simp only [execOp, hop, ← e1, ← e2]; rfl) h1 ?_
      rw [h3]
      exact EffOk.same h2 (by intro v hv; cases hv)
    · cases he
  case h_9 x hop =>
    split at he
    · rename_i v hv
      obtain ⟨e1, e2⟩ := hev x (by rw [hop]; simp [Op.operands]) _ hv
      obtain ⟨⟨a, h1⟩, h2, h3, h4⟩ := run_actNilCheck (P := E.P) r he
      refine .inl ⟨ρ x, w, by simp only [execOp, hop, ← e1, h1]; rfl, ?_⟩
      rw [h4, h2, ← e1]
      exact EffOk.pure r e2
    · cases he
  case h_10 op t x y yt hop =>
    split at he
    · rename_i a b ha hb
      split at he
      · rename_i c hc
        cases he
        obtain ⟨e1, _⟩ := hev x (by rw [hop]; simp [Op.operands]) _ ha
        obtain ⟨e2, _⟩ := hev y (by rw [hop]; simp [Op.operands]) _ hb
        have hrun := run_binC β hc hp x y w
        refine OpRuns.value (by simp only [execOp, hop, ← e1, ← e2]) hrun (hpure _ (binC_id hc))
      · cases he
    · cases he
  case h_11 op t x hop =>
    split at he
    · rename_i a ha
      split at he
      · rename_i c hc
        cases he
        obtain ⟨e1, _⟩ := hev x (by rw [hop]; simp [Op.operands]) _ ha
        refine OpRuns.value (by simp only [execOp, hop, ← e1]) (run_unC β hc w) (hpure _ (unC_id hc))
      · cases he
    · cases he
  case h_12 src dst x hop =>
    split at he
    · rename_i a ha
      split at he
      · rename_i c hc
        cases he
        obtain ⟨e1, _⟩ := hev x (by rw [hop]; simp [Op.operands]) _ ha
        refine OpRuns.value (by simp only [execOp, hop, ← e1]) (run_convC β hc w) (hpure _ (convC_id hc))
      · cases he
    · cases he
  case h_13 t x hop =>
    split at he
    · rename_i v hv
      obtain ⟨e1, _⟩ := hev x (by rw [hop]; simp [Op.operands]) _ hv
      obtain ⟨h1, h2, h3⟩ := run_actArrayAt r he
      refine OpRuns.value (by simp only [execOp, hop, ← e1]) h1 ?_
      rw [h3]
      exact EffOk.pure r h2
    · cases he
  case h_14 t x lo hi mx hop =>
    split at he
    · rename_i v hv
      obtain ⟨e1, _⟩ := hev x (by rw [hop]; simp [Op.operands]) _ hv
      obtain ⟨u, h1, h2⟩ := run_actSlice r hid (x := x) (ρ := ρ) (lo := lo) (hi := hi) (mx := mx) he hp e1
        (fun y hy v hv => (hev y (by rw [hop]; simp only [Op.operands]; simp at hy ⊢; simp [hy]) v hv).1)
        (fun y hy v hv => (hev y (by rw [hop]; simp only [Op.operands]; simp at hy ⊢; simp [hy]) v hv).1)
        (fun y hy v hv => (hev y (by rw [hop]; simp only [Op.operands]; simp at hy ⊢; simp [hy]) v hv).1)
      exact OpRuns.value (by simp only [execOp, hop]) h1 h2
    · cases he
  case h_15 s x f hop =>
    split at he
    · rename_i v hv
      obtain ⟨e1, _⟩ := hev x (by rw [hop]; simp [Op.operands]) _ hv
      obtain ⟨h1, h2, h3⟩ := run_actFieldAddr r he
      refine OpRuns.value (by simp only [execOp, hop, ← e1]) h1 ?_
      rw [h3]
      exact EffOk.pure r h2
    · cases he
  case h_16 t x f hop =>
    split at he
    · rename_i v hv
      obtain ⟨e1, e2⟩ := hev x (by rw [hop]; simp [Op.operands]) _ hv
      obtain ⟨h1, h2, h3⟩ := run_actField (β := β) he e2 w
      refine OpRuns.value (by simp only [execOp, hop, ← e1]) h1 ?_
      rw [h3]
      exact EffOk.pure r h2
    · cases he
  case h_17 t x ix hop =>
    split at he
    · rename_i v k hv hk
      obtain ⟨e1, _⟩ := hev x (by rw [hop]; simp [Op.operands]) _ hv
      obtain ⟨e2, _⟩ := hev ix (by rw [hop]; simp [Op.operands]) _ hk
      obtain ⟨h1, h2, h3⟩ := run_actIndexAddr r he hp
      refine OpRuns.value (by simp only [execOp, hop, ← e1, ← e2]) h1 ?_
      rw [h3]
      exact EffOk.pure r h2
    · cases he
  case h_18 t x ix hop =>
    split at he
    · rename_i v k hv hk
      obtain ⟨e1, e3⟩ := hev x (by rw [hop]; simp [Op.operands]) _ hv
      obtain ⟨e2, _⟩ := hev ix (by rw [hop]; simp [Op.operands]) _ hk
      obtain ⟨h1, h2, h3⟩ := run_actIndex (β := β) he hp e3 w
      refine OpRuns.value (by simp only [execOp, hop, ← e1, ← e2]) h1 ?_
      rw [h3]
      exact EffOk.pure r h2
    · cases he
  case h_19 x k hop =>
    split at he
    · rename_i v hv
      obtain ⟨e1, e3⟩ := hev x (by rw [hop]; simp [Op.operands]) _ hv
      obtain ⟨h1, h2, h3⟩ := run_actExtract (β := β) he e3 w
      refine OpRuns.value (by simp only [execOp, hop, ← e1]) h1 ?_
      rw [h3]
      exact EffOk.pure r h2
    · cases he
  case h_20 c hop =>
    split at he
    · rename_i f hcallee
      split at he
      · rename_i fn args hf hargs
        split at he
        · rename_i res hres
          obtain ⟨e1, _⟩ := hev f (by rw [hop]; simp [Op.operands, Call.operands, hcallee]) _ hf
          obtain ⟨e2, e3⟩ := mapO_ev (ρ := ρ) (β := β) (h := h) hargs (fun x hx v hv => hev x (by rw [hop]; simp only [Op.operands, Call.operands]; simp at hx ⊢; simp [hx]) v hv)
          have hrun : execOp ρ o = callFunc fn (args.map (gv β)).toArray := by
            have e4 : (args.map (gv β)).toArray = c.args.map ρ := by
              apply Array.ext'
              rw [Array.toList_map]
              exact e2
            have e5 : ρ f = .func (.func fn) #[] #[] := by rw [← e1]; rfl
            simp only [execOp, hop, resolve, hcallee, e5, Deferred.ofValue, e4]
            simp [invoke]
          have fin : res.pre.holds → OpRuns E.P o ρ w (EffOk w0 β h id res.val (newL id res.new)) := by
            intro hp
            have hc := hE.call fn id h args res hres hp w0 β w r hid e3
            unfold OpRuns
            rw [hrun]
            rcases hc with ⟨v, w', h1, h2⟩ | ⟨h1, h2⟩
            · exact .inl ⟨v, w', h1, h2⟩
            · exact .inr (.inr ⟨_, _, _, h1, h2⟩)
          split at he
          · rename_i hnew
            cases he
            have := fin hp
            rw [hnew] at this
            exact this
          · rename_i b hnew
            split at he
            · cases he
              have := fin hp
              rw [hnew] at this
              exact this
            · cases he
        · cases he
      · cases he
    · rename_i b hcallee
      split at he
      · rename_i args hargs
        obtain ⟨e2, e3⟩ := mapO_ev (ρ := ρ) (β := β) (h := h) hargs (fun x hx v hv => hev x (by rw [hop]; simp only [Op.operands, Call.operands]; simp at hx ⊢; simp [hx]) v hv)
        have e4 : c.args.map ρ = (args.map (gv β)).toArray := by
          apply Array.ext'
          rw [Array.toList_map]
          exact e2.symm
        have hex : execOp ρ o = builtin b c.argTypes o.type (c.args.map fun | .const _ => true | _ => false) (args.map (gv β)).toArray := by
          simp only [execOp, hop, resolve, hcallee, e4]
          simp [invoke]
          rfl
        split at he
        · rename_i x t ht
          obtain ⟨h1, h2, h3⟩ := run_actLen (ty := o.type) r he hp
          refine OpRuns.value (s := Builtin.len_ c.argTypes o.type #[gv β x]) (by rw [hex]; rfl) ?_ (by rw [h3]; exact EffOk.pure r h2)
          have : c.argTypes = #[t] := by apply Array.ext'; exact ht
          rw [this]
          exact h1
        · unfold actMM at he
          split at he
          · rename_i cc rest
            split at he
            · rename_i d hd
              cases he
              obtain ⟨h1, h2⟩ := minmaxL_spec (P := E.P) (β := β) w hd
              refine OpRuns.value (s := Builtin.max_ c.argTypes o.type ((AV.one (.c cc) :: rest).map (gv β)).toArray) (by rw [hex]; rfl) h1 ?_
              exact EffOk.pure r (h2 h (e3 (.one (.c cc)) (by simp)))
            · cases he
          · cases he
        · unfold actMM at he
          split at he
          · rename_i cc rest
            split at he
            · rename_i d hd
              cases he
              obtain ⟨h1, h2⟩ := minmaxL_spec (P := E.P) (β := β) w hd
              refine OpRuns.value (s := Builtin.min_ c.argTypes o.type ((AV.one (.c cc) :: rest).map (gv β)).toArray) (by rw [hex]; rfl) h1 ?_
              exact EffOk.pure r (h2 h (e3 (.one (.c cc)) (by simp)))
            · cases he
          · cases he
        · cases he
      · cases he
    · cases he
  case h_21 t len parts hop =>
    obtain ⟨v, w', h1, h2⟩ := run_actBuildSlice r hid (ρ := ρ) he (fun p hp' v hv => hev p.2 (by
      rw [hop]
      simp only [Op.operands]
      exact List.mem_map_of_mem hp') v hv)
    exact OpRuns.value (by simp [execOp, hop]) h1 h2
  case h_22 t l c hop =>
    split at he
    · rename_i a b ha hb
      obtain ⟨e1, _⟩ := hev l (by rw [hop]; simp [Op.operands]) _ ha
      obtain ⟨e2, _⟩ := hev c (by rw [hop]; simp [Op.operands]) _ hb
      obtain ⟨v, w', h1, h2⟩ := run_actMakeSlice (P := E.P) r hid he hp
      exact OpRuns.value (by simp only [execOp, hop, ← e1, ← e2]) h1 h2
    · cases he
  case h_23 => cases he

end Go.Proofs.Ytfkmooldindfjaa
