/- The executor, part j: literals, lengths, choices; and all operations together. -/
import Derived.Test.YtfkmooldindfjaaEi
set_option linter.unusedSimpArgs false
set_option linter.unusedVariables false
namespace Go.Proofs.Ytfkmooldindfjaa
open Go.RowKit

theorem run_actArrayAt {P : Program} {w0 : World} {β : Nat → Pl} {h : Heap} {w : World} (r : HRel w0 β h w) {t : TypeId} {x : AV} {e : Eff} (he : actArrayAt P h t x = some e) :
    (Instr.arrayAt t (gv β x)).run P w = .ok (gv β e.val) w ∧ okv h e.val ∧ e.wr = [] := by
  unfold actArrayAt at he
  split at he
  · rename_i i off len sz rc n el hu
    split at he
    · rename_i b hb
      have hi := liveOf_some hb
      split at he
      · rename_i cs hbody
        split at he
        · rename_i hc
          cases he
          simp only [Bool.and_eq_true] at hc
          obtain ⟨⟨⟨c1, c2⟩, c3⟩, c4⟩ := hc
          have hz := Nat.eq_of_beq_eq_true c4
          have hle := leB_le c1
          obtain ⟨a, ha, hs⟩ := r.base_some hi (.inr hz)
          refine ⟨?_, okc_ptr hi, rfl⟩
          simp only [Instr.arrayAt, Sem.run_bind, run_underlying hu, Result.andThen_ok, gv, g1, gc, ha, if_neg (Nat.not_lt.2 hle), Sem.run_pure, Option.map_some]
        · cases he
      · cases he
    · cases he
  · cases he

theorem run_actNilCheck {P : Program} {w0 : World} {β : Nat → Pl} {h : Heap} {w : World} (r : HRel w0 β h w) {x : AV} {e : Eff} (he : actNilCheck h x = some e) :
    (∃ a, gv β x = .pointer (some a)) ∧ e.val = x ∧ okv h e.val ∧ e.wr = [] := by
  unfold actNilCheck at he
  split at he
  · rename_i i off
    split at he
    · rename_i b hb
      have hi := liveOf_some hb
      split at he
      · rename_i hz
        cases he
        obtain ⟨a, ha, hs⟩ := r.base_some hi (.inr hz)
        exact ⟨⟨_, gc_ptr ha⟩, rfl, okc_ptr hi, rfl⟩
      · cases he
    · cases he
  · cases he

/-! ## literals -/

theorem fold_set (off : Nat) (vs : List Value) : ∀ (k : Nat) (cells : Array Value), off + k + vs.length ≤ cells.size →
    ((vs.zipIdx k).foldl (fun cs (p : Value × Nat) => cs.setIfInBounds (off + p.2) p.1) cells).toList = cells.toList.take (off + k) ++ vs ++ cells.toList.drop (off + k + vs.length) := by
  induction vs with
  | nil => intro k cells _; simp
  | cons v vs ih =>
    intro k cells hl
    simp only [List.length_cons] at hl
    simp only [List.zipIdx_cons, List.foldl_cons]
    rw [ih (k + 1) _ (by simp; omega)]
    have := list_seg_step cells.toList (off + k) v vs (by simp; omega)
    simpa [Array.toList_setIfInBounds, Nat.add_assoc] using this

theorem fill_step (place : Nat → Option (Nat × Nat)) (cells : Array Value) (i : Nat) (v : Value) (vs : List Value) (rest : List (Nat × Value)) (off size : Nat) (hp : place i = some (off, size))
    (hv : v.cells = vs.toArray) (hs : vs.length = size) (hl : off + size ≤ cells.size) :
    Instr.fill place cells ((i, v) :: rest) = Instr.fill place (cells.toList.take off ++ vs ++ cells.toList.drop (off + vs.length)).toArray rest := by
  have e1 : (vs.toArray.zipIdx.foldl (fun cs (p : Value × Nat) => cs.setIfInBounds (off + p.2) p.1) cells) = (cells.toList.take off ++ vs ++ cells.toList.drop (off + vs.length)).toArray := by
    apply Array.ext'
    have := fold_set off vs 0 cells (by omega)
    simp only [Nat.add_zero] at this
    rw [← this]
    simp
  have h1 : ¬ (vs.length ≠ size) := by simpa using hs
  simp only [Instr.fill, hp, hv, List.size_toArray]
  rw [if_neg (by simp; omega)]
  exact congrArg (fun c => Instr.fill place c rest) e1

theorem fillC_spec {place : Nat → Option (Nat × Nat)} {β : Nat → Pl} : ∀ {ps : List (Nat × List Cell)} {us : List (Nat × Value)} {zc cs : List Cell}, fillC place zc ps = some cs →
    us.map (fun p => (p.1, p.2.cells)) = ps.map (fun p => (p.1, (p.2.map (gc β)).toArray)) → Instr.fill place (zc.map (gc β)).toArray us = some (cs.map (gc β)).toArray ∧
      (∀ hp : Heap, (∀ c ∈ zc, okc hp c) → (∀ p ∈ ps, ∀ c ∈ p.2, okc hp c) → ∀ c ∈ cs, okc hp c)
  | [], us, zc, cs, h, hu => by
    cases h
    have : us = [] := by simpa using hu
    subst this
    exact ⟨rfl, fun hp H _ => H⟩
  | (i, vs) :: ps, us, zc, cs, h, hu => by
    cases us with
    | nil => simp at hu
    | cons u us =>
      obtain ⟨i', v⟩ := u
      simp only [List.map_cons, List.cons.injEq, Prod.mk.injEq] at hu
      obtain ⟨⟨rfl, hv⟩, hu⟩ := hu
      simp only [fillC] at h
      split at h
      · cases h
      · rename_i off size hp
        split at h
        · rename_i hc
          simp only [Bool.and_eq_true] at hc
          have c1 := Nat.eq_of_beq_eq_true hc.1
          have c2 := leB_le hc.2
          obtain ⟨h1, h2⟩ := fillC_spec h hu
          refine ⟨?_, fun H hz hps => h2 H (fun c hcm => ?_) (fun p hpm => hps p (by simp [hpm]))⟩
          · rw [fill_step place _ i' v (vs.map (gc β)) us off size hp hv (by simpa using c1) (by simpa using c2), ← h1]
            congr 2
            simp [List.map_take, List.map_drop]
          · rcases List.mem_append.1 hcm with hcm | hcm
            · rcases List.mem_append.1 hcm with hcm | hcm
              · exact hz c (List.mem_of_mem_take hcm)
              · exact hps (i', vs) (by simp) c hcm
            · exact hz c (List.mem_of_mem_drop hcm)
        · cases h

theorem mapO_eq_mapM {α β : Type} (f : α → Option β) : ∀ xs : List α, mapO f xs = xs.mapM f
  | [] => rfl
  | x :: xs => by
    simp only [mapO, List.mapM_cons, mapO_eq_mapM f xs]
    cases f x with
    | none => rfl
    | some y => cases xs.mapM f <;> rfl

theorem nth_get {α : Type} : ∀ (xs : List α) (i : Nat), nth xs i = xs[i]?
  | [], i => by simp [nth]
  | x :: xs, 0 => by simp [nth]
  | x :: xs, i + 1 => by simp [nth, nth_get xs i]

theorem run_actBuild {P : Program} {β : Nat → Pl} {h : Heap} {t : TypeId} {parts : Array (Nat × Operand)} {ev : Operand → Option AV} {ρ : Operand → Value} {e : Eff} (he : actBuild P t (partsC ev parts.toList) = some e)
    (hev : ∀ p ∈ parts.toList, ∀ v, ev p.2 = some v → gv β v = ρ p.2 ∧ okv h v) (w : World) :
    (Instr.build t (parts.map fun (i, x) => (i, ρ x))).run P w = .ok (gv β e.val) w ∧ okv h e.val ∧ e.wr = [] := by
  unfold actBuild at he
  split at he
  · rename_i z pl ps hz hpl hps
    split at he
    · rename_i cs hcs
      cases he
      obtain ⟨it, zv, hit, hzv, hzc⟩ := zeroC_spec hz β
      -- the parts
      have hparts : ∀ (l : List (Nat × Operand)) (ps : List (Nat × List Cell)), (∀ p ∈ l, ∀ v, ev p.2 = some v → gv β v = ρ p.2 ∧ okv h v) → partsC ev l = some ps →
          (l.map fun p => (p.1, ρ p.2)).map (fun p => (p.1, p.2.cells)) = ps.map (fun p => (p.1, (p.2.map (gc β)).toArray)) ∧ ∀ p ∈ ps, ∀ c ∈ p.2, okc h c := by
        intro l
        induction l with
        | nil => intro ps _ hl; cases hl; simp
        | cons p l ih =>
          intro ps H hl
          unfold partsC at hl
          simp only [mapO] at hl
          split at hl
          · rename_i q qs hq hqs
            cases hl
            obtain ⟨i1, i2⟩ := ih qs (fun p' hp' => H p' (by simp [hp'])) hqs
            split at hq
            · rename_i v hv
              split at hq
              · rename_i vs hvs
                cases hq
                obtain ⟨g1', g2'⟩ := H p (by simp) v hv
                refine ⟨?_, fun p' hp' => ?_⟩
                · simp only [List.map_cons, i1]
                  rw [← g1', cellsOfV_gv hvs β]
                · rcases List.mem_cons.1 hp' with rfl | hp'
                  · exact cellsOfV_ok hvs g2'
                  · exact i2 p' hp'
              · cases hq
            · cases hq
          · cases hl
      obtain ⟨q1, q2⟩ := hparts parts.toList ps hev hps
      obtain ⟨f1, f2⟩ := fillC_spec hcs q1
      have hb : P.built t (parts.map fun (i, x) => (i, ρ x)).toList = some (cs.map (gc β)).toArray := by
        unfold Program.built
        unfold placesC at hpl
        rw [hit]
        simp only []
        split at hpl
        · rename_i len el hu
          split at hpl
          · rename_i ei hei
            cases hpl
            rw [hu]
            simp only [hzv, hei, hzc]
            simpa using f1
          · cases hpl
        · rename_i fs hu
          split at hpl
          · rename_i pls hpls
            cases hpl
            rw [hu]
            simp only [hzv, hzc]
            rw [mapO_eq_mapM] at hpls
            have : fs.toList.mapM (fun f => (P.info? f.type).map fun i => (f.offset, i.size)) = some pls := by
              rw [← hpls]
              congr 1
              funext f
              cases P.info? f.type <;> rfl
            rw [this]
            simp only [List.getElem?_toArray]
            rw [hzc]
            simpa using f1
          · cases hpl
        · cases hpl
      refine ⟨?_, f2 h (zeroC_ok hz h) q2, rfl⟩
      rw [run_build w t _ _ hb]
      rfl
    · cases he
  · cases he

/-! ## lengths; least and greatest -/

theorem run_actLen {P : Program} {w0 : World} {β : Nat → Pl} {h : Heap} {w : World} (r : HRel w0 β h w) {t ty : TypeId} {x : AV} {e : Eff} (he : actLen P h t x = some e) (hp : e.pre.holds) :
    (Builtin.len_ #[t] ty #[gv β x]).run P w = .ok (gv β e.val) w ∧ okv h e.val ∧ e.wr = [] := by
  unfold actLen at he
  split at he
  · rename_i i off len sz rc kn el hu
    have main : ∀ b, h i = .live b → off + len * sz ≤ b.body.cells.length → 0 < sz → (Builtin.len_ #[t] ty #[gv β (.one (.c (.slc i off len sz rc kn)))]).run P w = .ok (gc β (lenC kn len)) w := by
      intro b hi h1 h2
      have e1 : gc β (lenC kn len) = goInt len := by cases kn <;> rfl
      have hbk := r.blk i b hi
      unfold BlkOk at hbk
      cases ha : (β i).base with
      | none =>
        rw [ha] at hbk
        rw [hbk.1] at h1
        simp only [List.length_nil] at h1
        have hl0 : len = 0 := by
          rcases Nat.eq_zero_or_pos len with e | e
          · exact e
          · have := Nat.mul_pos e h2; omega
        subst hl0
        have e2 : gv β (.one (.c (.slc i off 0 sz rc kn))) = .slice none 0 0 := by simp [gv, g1, gc, ha]
        rw [e1, e2]
        simp only [Builtin.len_]
        simp [run_underlying hu]
      | some a =>
        have e2 : gv β (.one (.c (.slc i off len sz rc kn))) = .slice (some (a.add off)) len (rc.val (β i)) := by simp [gv, g1, gc, ha]
        rw [e1, e2]
        simp only [Builtin.len_]
        simp [run_underlying hu]
    have hok : ∀ hp : Heap, okc hp (lenC kn len) := fun hp => okc_none (by cases kn <;> rfl)
    split at he
    · rename_i b hb
      have hi := liveOf_some hb
      split at he
      · rename_i cs hbody
        split at he
        · rename_i hc
          cases he
          simp only [Bool.and_eq_true] at hc
          exact ⟨main b hi (by rw [hbody]; exact leB_le hc.1) (leB_le (a := 1) hc.2), hok h, rfl⟩
        · cases he
      · cases he
        exact ⟨main b hi hp.1 hp.2, hok h, rfl⟩
    · cases he
  · rename_i hu
    cases he
    refine ⟨?_, okc_none rfl, rfl⟩
    simp only [Builtin.len_]
    simp [run_underlying hu, gv, g1, gc, goInt, cellE]
  · rename_i s hu
    cases he
    refine ⟨?_, okc_none rfl, rfl⟩
    rw [show gv β (AV.one (AV1.c (.str s))) = .string ⟨s.toArray⟩ from rfl]
    simp only [Builtin.len_]
    simp [run_underlying hu]
    rfl
  · rename_i i off n el hu
    cases he
    refine ⟨?_, okc_none rfl, rfl⟩
    simp only [Builtin.len_]
    simp [run_underlying hu, gv, g1, gc, goInt, cellE]
  · rename_i xs n el hu
    cases he
    refine ⟨?_, okc_none rfl, rfl⟩
    rw [show gv β (AV.one (AV1.agg xs)) = .agg (xs.map (gc β)).toArray from rfl]
    generalize (xs.map (gc β)).toArray = v
    simp only [Builtin.len_]
    simp [run_underlying hu, goInt]
    rfl
  · cases he

theorem minmax_spec {P : Program} {isMax : Bool} {a b c : Cell} (h : minmax isMax a b = some c) (β : Nat → Pl) (w : World) :
    ((if isMax then Builtin.max2 else Builtin.min2) (gc β a) (gc β b)).run P w = .ok (gc β c) w ∧ c.idOf = none := by
  unfold minmax at h
  split at h
  · split at h
    · rename_i hk
      have := kNum_inj hk
      subst this
      cases h
      cases isMax <;> exact ⟨rfl, rfl⟩
    · cases h
  · split at h
    · rename_i k x k' y ha hb
      split at h
      · rename_i hk
        have := kNum_inj hk
        subst this
        cases h
        rw [toI_gc β ha, toI_gc β hb]
        cases isMax <;> exact ⟨rfl, rfl⟩
      · cases h
    · cases h

theorem minmaxL_spec {P : Program} {isMax : Bool} {β : Nat → Pl} (w : World) : ∀ {rest : List AV} {a c : Cell}, minmaxL isMax a rest = some c →
    (List.foldlM (if isMax then Builtin.max2 else Builtin.min2) (gc β a) (rest.map (gv β))).run P w = .ok (gc β c) w ∧ (∀ hp : Heap, okc hp a → okc hp c)
  | [], a, c, h => by cases h; exact ⟨rfl, fun _ e => e⟩
  | v :: rest, a, c, h => by
    unfold minmaxL at h
    split at h
    · rename_i h1; cases h1
    · rename_i d rest' h1
      cases h1
      split at h
      · rename_i e he
        obtain ⟨h1, h2⟩ := minmax_spec (P := P) he β w
        obtain ⟨h3, h4⟩ := minmaxL_spec w h
        refine ⟨?_, fun hp _ => h4 hp (okc_none h2)⟩
        simp only [List.map_cons, List.foldlM_cons, Sem.run_bind]
        rw [show gv β (AV.one (AV1.c d)) = gc β d from rfl, h1]
        exact h3
      · cases h
    · cases h

end Go.Proofs.Ytfkmooldindfjaa
