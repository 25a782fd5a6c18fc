/- The executor, part i: slices, literals, lengths, least and greatest. -/
import Derived.Test.YtfkmooldindfjaaEh
set_option linter.unusedSimpArgs false
set_option linter.unusedVariables false
namespace Go.Proofs.Ytfkmooldindfjaa
open Go.RowKit

theorem bnd_spec {o : Option Operand} {ev : Operand → Option AV} {ρ : Operand → Value} {β : Nat → Pl} {d : Nat} {dk : Bool} {r : Cond Nat} {kn : Bool} (h : bnd (o.map ev) d dk = some (r, kn)) (hp : r.pre.holds)
    (hev : ∀ x ∈ o.toList, ∀ v, ev x = some v → gv β v = ρ x) : (o = none ∧ r.val = d) ∨ ∃ k n, o.map ρ = some (.int k n) ∧ 0 ≤ n ∧ r.val = n.toNat := by
  cases o with
  | none => simp [bnd] at h; left; exact ⟨rfl, by rw [← h.1]⟩
  | some x =>
    right
    simp only [Option.map_some] at h ⊢
    have hx := hev x (by simp)
    cases hv : ev x with
    | none => rw [hv] at h; simp [bnd] at h
    | some v =>
      rw [hv] at h
      rw [← hx v hv]
      unfold bnd at h
      split at h
      · rename_i h1; cases h1
      · rename_i k n h1
        cases h1
        split at h
        · rename_i h0
          cases h
          exact ⟨k, n, rfl, by simpa using h0, rfl⟩
        · cases h
      · rename_i c hc h1
        cases h1
        split at h
        · rename_i k n hk
          cases h
          exact ⟨k, n, by show some (gc β c) = _; rw [toI_gc β hk], hp, rfl⟩
        · cases h
      · cases h

theorem run_sb {P : Program} (isSlice : Bool) (len cap : Nat) (lo hi mx : Option Value) (l h m : Nat) (hl : (lo = none ∧ l = 0) ∨ ∃ k n, lo = some (.int k n) ∧ 0 ≤ n ∧ l = n.toNat)
    (hh : (hi = none ∧ mx = none ∧ h = len) ∨ ∃ k n, hi = some (.int k n) ∧ 0 ≤ n ∧ h = n.toNat) (hm : (mx = none ∧ m = cap) ∨ ∃ k n, mx = some (.int k n) ∧ 0 ≤ n ∧ m = n.toNat)
    (h1 : l ≤ h) (h2 : h ≤ m) (h3 : m ≤ cap) (w : World) : (Instr.sliceBounds isSlice len cap lo hi mx).run P w = .ok (l, h, m) w := by
  have sb : ∀ (k : IntKind) (n : Int) (y : Nat) (code : BoundsCode), 0 ≤ n → n ≤ y → (Instr.sliceBound (.int k n) y code).run P w = .ok n.toNat w := fun k n y code a b => run_sliceBound w k n y code a b
  unfold Instr.sliceBounds
  rcases hm with ⟨rfl, rfl⟩ | ⟨km, nm, rfl, hm0, rfl⟩
  · simp only [Sem.run_bind, Sem.run_pure, Result.andThen_ok]
    rcases hh with ⟨rfl, _, rfl⟩ | ⟨kh, nh, rfl, hh0, rfl⟩
    · simp only [Sem.run_bind, Sem.run_pure, Result.andThen_ok]
      rcases hl with ⟨rfl, rfl⟩ | ⟨kl, nl, rfl, hl0, rfl⟩
      · simp
      · simp only [Sem.run_bind, sb kl nl h _ hl0 (by omega), Result.andThen_ok, Sem.run_pure]
    · simp only [Sem.run_bind, sb kh nh m _ hh0 (by omega), Sem.run_pure, Result.andThen_ok]
      rcases hl with ⟨rfl, rfl⟩ | ⟨kl, nl, rfl, hl0, rfl⟩
      · simp
      · simp only [Sem.run_bind, sb kl nl _ _ hl0 (by omega : nl ≤ (nh.toNat : Int)), Result.andThen_ok, Sem.run_pure]
  · simp only [Sem.run_bind, sb km nm cap _ hm0 (by omega), Sem.run_pure, Result.andThen_ok]
    rcases hh with ⟨rfl, hc, rfl⟩ | ⟨kh, nh, rfl, hh0, rfl⟩
    · cases hc
    · simp only [Sem.run_bind, sb kh nh nm.toNat _ hh0 (by omega), Sem.run_pure, Result.andThen_ok]
      rcases hl with ⟨rfl, rfl⟩ | ⟨kl, nl, rfl, hl0, rfl⟩
      · simp
      · simp only [Sem.run_bind, sb kl nl _ _ hl0 (by omega : nl ≤ (nh.toNat : Int)), Result.andThen_ok, Sem.run_pure]

theorem hiOk_spec {hi mx : Option Operand} {ev : Operand → Option AV} (h : hiOk (hi.map ev) (mx.map ev) = true) : hi = none → mx = none := by
  intro e
  subst e
  cases mx with
  | none => rfl
  | some _ => simp [hiOk] at h

theorem run_actSlice {P : Program} {w0 : World} {β : Nat → Pl} {h : Heap} {w : World} (r : HRel w0 β h w) {id : Nat} (hid : h id = .un) {t : TypeId} {x : Operand} {lo hi mx : Option Operand} {ev : Operand → Option AV} {ρ : Operand → Value}
    {v : AV} {e : Eff} (he : actSlice P h id t v (lo.map ev) (hi.map ev) (mx.map ev) = some e) (hp : e.pre.holds) (hx : gv β v = ρ x)
    (hlo : ∀ y ∈ lo.toList, ∀ v, ev y = some v → gv β v = ρ y) (hhi : ∀ y ∈ hi.toList, ∀ v, ev y = some v → gv β v = ρ y) (hmx : ∀ y ∈ mx.toList, ∀ v, ev y = some v → gv β v = ρ y) :
    ∃ u, (Instr.sliceAt t (ρ x) (lo.map ρ) (hi.map ρ) (mx.map ρ)).run P w = .ok u w ∧ EffOk w0 β h id e.val e.wr u w := by
  unfold actSlice at he
  split at he
  · -- an array
    rename_i i off n el hu
    split at he
    · rename_i ei b pm m hei hb hbm
      have hi' := liveOf_some hb
      split at he
      · rename_i ph hv kh pl l hbh hbl
        have key : b.esz = 0 → pm.holds → ph.holds → pl.holds → l ≤ hv → hv ≤ m → m ≤ n → (hi = none → mx = none) →
            ∃ a, (β i).base = some a ∧ a.spot = none ∧ (Instr.sliceAt t (ρ x) (lo.map ρ) (hi.map ρ) (mx.map ρ)).run P w =
              .ok (.slice (some (if m = l then a.add off else (a.add off).add (l * ei.size))) (hv - l) (m - l)) w := by
          intro hz pm' ph' pl' h1 h2 h3 hho
          obtain ⟨a, ha, hs⟩ := r.base_some hi' (.inr hz)
          refine ⟨a, ha, hs, ?_⟩
          have eb := bnd_spec hbm pm' hmx
          have ebh := bnd_spec hbh ph' hhi
          have ebl := bnd_spec hbl pl' hlo
          have hrun := run_sb (P := P) false n n (lo.map ρ) (hi.map ρ) (mx.map ρ) l hv m
            (by rcases ebl with ⟨e, e2⟩ | e
                · exact .inl ⟨by simp [e], e2⟩
                · exact .inr e)
            (by rcases ebh with ⟨e, e2⟩ | e
                · exact .inl ⟨by simp [e], by simp [hho e], e2⟩
                · exact .inr e)
            (by rcases eb with ⟨e, e2⟩ | e
                · exact .inl ⟨by simp [e], e2⟩
                · exact .inr e) h1 h2 h3 w
          rw [← hx]
          simp only [Instr.sliceAt, Sem.run_bind, run_underlying hu, Result.andThen_ok, gv, g1, gc_ptr ha, Instr.sureAddr, Sem.run_pure, hrun, run_sizeOf hei]
          have hsz : P.cellsOf el = ei.size := by simp [Program.cellsOf, hei]
          rw [hsz]
        split at he
        · rename_i hz
          split at he
          · rename_i hc
            simp only [Bool.and_eq_true] at hc
            obtain ⟨⟨⟨c1, c2⟩, c3⟩, c4⟩ := hc
            have pm' : pm.holds := by
              unfold bnd at hbm; split at hbm
              · cases hbm; trivial
              · split at hbm
                · cases hbm; trivial
                · cases hbm
              · split at hbm
                · cases hbm
                · cases hbm
              · cases hbm
            have ph' : ph.holds := by
              unfold bnd at hbh; split at hbh
              · cases hbh; trivial
              · split at hbh
                · cases hbh; trivial
                · cases hbh
              · split at hbh
                · cases hbh
                · cases hbh
              · cases hbh
            have pl' : pl.holds := by
              unfold bnd at hbl; split at hbl
              · cases hbl; trivial
              · split at hbl
                · cases hbl; trivial
                · cases hbl
              · split at hbl
                · cases hbl
                · cases hbl
              · cases hbl
            obtain ⟨a, ha, hs, hrun⟩ := key hz pm' ph' pl' (leB_le c1) (leB_le c2) (leB_le c3) (hiOk_spec c4)
            refine ⟨_, hrun, ?_⟩
            split at he
            · rename_i hml
              cases he
              rw [if_pos (Nat.eq_of_beq_eq_true hml)]
              have := EffOk.pure (id := id) (val := .one (.c (.slc i off (hv - l) ei.size (.kn (m - l)) true))) r (okc_slc hi')
              simpa [gv, g1, gc, ha, RC.val] using this
            · rename_i hml
              cases he
              rw [if_neg (Nat.ne_of_beq_eq_false hml), addr_add_add a hs]
              have := EffOk.pure (id := id) (val := .one (.c (.slc i (off + l * ei.size) (hv - l) ei.size (.kn (m - l)) true))) r (okc_slc hi')
              simpa [gv, g1, gc, ha, RC.val] using this
          · cases he
        · rename_i hz
          split at he
          · rename_i hml hc
            cases he
            simp only [Bool.and_eq_true] at hc
            obtain ⟨q1, q2⟩ := Pr.and_holds hp
            simp only [Pr.holds] at q2
            have pm' : pm.holds := by
              unfold bnd at hbm; split at hbm
              · cases hbm; trivial
              · split at hbm
                · cases hbm; trivial
                · cases hbm
              · split at hbm
                · cases hbm
                · cases hbm
              · cases hbm
            have pl' : pl.holds := by
              unfold bnd at hbl; split at hbl
              · cases hbl; trivial
              · split at hbl
                · cases hbl; trivial
                · cases hbl
              · split at hbl
                · cases hbl
                · cases hbl
              · cases hbl
            obtain ⟨a, ha, hs, hrun⟩ := key hz pm' q1 pl' q2.1 q2.2 (leB_le hc.1) (hiOk_spec hc.2)
            refine ⟨_, hrun, ?_⟩
            rw [if_neg (Nat.ne_of_beq_eq_false hml), addr_add_add a hs]
            have := EffOk.pure (id := id) (val := .one (.c (.slc i (off + l * ei.size) (hv - l) ei.size (.kn (m - l)) false))) r (okc_slc hi')
            simpa [gv, g1, gc, ha, RC.val] using this
          · cases he
        · cases he
      · cases he
    · cases he
  · -- a slice
    rename_i i off len sz rc kn el hu
    split at he
    · rename_i ei b hei hb hmn
      have hmx0 : mx = none := by cases mx with | none => rfl | some _ => simp at hmn
      subst hmx0
      have hi' := liveOf_some hb
      split at he
      · rename_i ph hv kh pl l kl hbh hbl
        split at he
        · rename_i hes
          have hes := Nat.eq_of_beq_eq_true hes
          have hsz : P.cellsOf el = sz := by simp [Program.cellsOf, hei, hes]
          -- what the model does
          have key : ph.holds → pl.holds → l ≤ hv → hv ≤ len → off + len * sz ≤ b.body.cells.length → 0 < sz → rc.fits off len sz b.esz →
              ((β i).base = none ∧ l = 0 ∧ hv = 0 ∧ (Instr.sliceAt t (ρ x) (lo.map ρ) (hi.map ρ) none).run P w = .ok (.slice none 0 0) w) ∨
              ∃ a, (β i).base = some a ∧ a.spot = none ∧ hv ≤ rc.val (β i) ∧ (Instr.sliceAt t (ρ x) (lo.map ρ) (hi.map ρ) none).run P w =
                .ok (.slice (some (if rc.val (β i) = l then a.add off else (a.add off).add (l * sz))) (hv - l) (rc.val (β i) - l)) w := by
            intro ph' pl' h1 h2 h3 h4 h5
            have ebh := bnd_spec hbh ph' hhi
            have ebl := bnd_spec hbl pl' hlo
            have hbk := r.blk i b hi'
            unfold BlkOk at hbk
            cases ha : (β i).base with
            | none =>
              left
              rw [ha] at hbk
              have hl0 : len = 0 := by
                rw [hbk.1] at h3
                simp only [List.length_nil] at h3
                rcases Nat.eq_zero_or_pos len with e | e
                · exact e
                · have := Nat.mul_pos e h4; omega
              have hrun := run_sb (P := P) true 0 0 (lo.map ρ) (hi.map ρ) none l hv 0
                (by rcases ebl with ⟨e, e2⟩ | e
                    · exact .inl ⟨by simp [e], e2⟩
                    · exact .inr e)
                (by rcases ebh with ⟨e, e2⟩ | e
                    · exact .inl ⟨by simp [e], rfl, by rw [← hl0]; exact e2⟩
                    · exact .inr e) (.inl ⟨rfl, rfl⟩) h1 (by omega) (Nat.le_refl _) w
              refine ⟨rfl, by omega, by omega, ?_⟩
              rw [← hx]
              simp only [Instr.sliceAt, Sem.run_bind, run_underlying hu, Result.andThen_ok, gv, g1, gc, ha, Instr.slice, hrun, run_sizeOf hei, Sem.run_pure]
              have e1 : l = 0 := by omega
              have e2 : hv = 0 := by omega
              simp [e1, e2]
            | some a =>
              right
              rw [ha] at hbk
              have hcap : len ≤ rc.val (β i) := by
                cases rc with
                | kn n => exact h5
                | of k =>
                  obtain ⟨q1, q2⟩ := h5
                  have q3 := hbk.2.2.2.1 (by omega)
                  rw [q2] at q3
                  have : (k + len) * sz ≤ (β i).cap * sz := by rw [Nat.add_mul]; omega
                  have := Nat.le_of_mul_le_mul_right this h4
                  simp only [RC.val]; omega
              have hrun := run_sb (P := P) true len (rc.val (β i)) (lo.map ρ) (hi.map ρ) none l hv (rc.val (β i))
                (by rcases ebl with ⟨e, e2⟩ | e
                    · exact .inl ⟨by simp [e], e2⟩
                    · exact .inr e)
                (by rcases ebh with ⟨e, e2⟩ | e
                    · exact .inl ⟨by simp [e], rfl, e2⟩
                    · exact .inr e) (.inl ⟨rfl, rfl⟩) h1 (by omega) (Nat.le_refl _) w
              refine ⟨a, rfl, hbk.1, by omega, ?_⟩
              rw [← hx]
              simp only [Instr.sliceAt, Sem.run_bind, run_underlying hu, Result.andThen_ok, gv, g1, gc, ha, Instr.slice, hrun, run_sizeOf hei, Sem.run_pure, hsz, Option.map_some]
              split <;> rfl
          -- the plain outcome
          have plain : ∀ kk, ph.holds → pl.holds → l ≤ hv → hv ≤ len → off + len * sz ≤ b.body.cells.length → 0 < sz → (l = 0 ∨ l < hv) → rc.fits off len sz b.esz →
              ∃ u, (Instr.sliceAt t (ρ x) (lo.map ρ) (hi.map ρ) none).run P w = .ok u w ∧
                EffOk w0 β h id (.one (.c (.slc i (off + l * sz) (hv - l) sz (rc.by l) kk))) [] u w := by
            intro kk ph' pl' h1 h2 h3 h4 h6 h5
            have hE := EffOk.pure (id := id) (val := .one (.c (.slc i (off + l * sz) (hv - l) sz (rc.by l) kk))) r (okc_slc hi')
            rcases key ph' pl' h1 h2 h3 h4 h5 with ⟨ha, e1, e2, hrun⟩ | ⟨a, ha, hs, hc, hrun⟩
            · exact ⟨_, hrun, by simpa [gv, g1, gc, ha] using hE⟩
            · refine ⟨_, hrun, ?_⟩
              have e1 : (if rc.val (β i) = l then a.add off else (a.add off).add (l * sz)) = a.add (off + l * sz) := by
                rcases h6 with e | e
                · subst e
                  simp [Addr.add_zero']
                · rw [if_neg (by omega), addr_add_add a hs]
              have e2 : RC.val (β i) (rc.by l) = rc.val (β i) - l := by
                cases rc with
                | kn n => rfl
                | of k => simp only [RC.val, RC.by]; omega
              rw [e1]
              simpa [gv, g1, gc, ha, e2] using hE
          split at he
          · rename_i _ _ _ cs hbody
            split at he
            · rename_i hc
              simp only [Bool.and_eq_true] at hc
              obtain ⟨⟨⟨c1, c2⟩, c3⟩, c4⟩ := hc
              have c4 : 0 < sz := leB_le (a := 1) c4
              have ph' : ph.holds := by
                unfold bnd at hbh; split at hbh
                · cases hbh; trivial
                · split at hbh
                  · cases hbh; trivial
                  · cases hbh
                · split at hbh
                  · cases hbh
                  · cases hbh
                · cases hbh
              have pl' : pl.holds := by
                unfold bnd at hbl; split at hbl
                · cases hbl; trivial
                · split at hbl
                  · cases hbl; trivial
                  · cases hbl
                · split at hbl
                  · cases hbl
                  · cases hbl
                · cases hbl
              have h3 : off + len * sz ≤ b.body.cells.length := by rw [hbody]; exact leB_le c3
              split at he
              · rename_i hrc
                have h5 : rc.fits off len sz b.esz := by
                  unfold RC.fitsB at hrc
                  cases rc with
                  | kn n => exact leB_le hrc
                  | of k =>
                    simp only [Bool.and_eq_true] at hrc
                    exact ⟨Nat.eq_of_beq_eq_true hrc.1, Nat.eq_of_beq_eq_true hrc.2⟩
                split at he
                · rename_i hdeg
                  cases he
                  have h6 : l = 0 ∨ l < hv := by
                    simp only [Bool.or_eq_true] at hdeg
                    rcases hdeg with e | e
                    · exact .inl (Nat.eq_of_beq_eq_true e)
                    · exact .inr (leB_le (a := l + 1) e)
                  exact plain true ph' pl' (leB_le c1) (leB_le c2) h3 c4 h6 h5
                · rename_i hdeg
                  cases he
                  simp only [Bool.or_eq_false_iff] at hdeg
                  have d1 : l ≠ 0 := Nat.ne_of_beq_eq_false hdeg.1
                  have d2 : ¬ l < hv := by
                    intro e
                    have := Nat.ble_eq_true_of_le (show l + 1 ≤ hv from e)
                    have h2 : Nat.blt l hv = true := this
                    rw [h2] at hdeg
                    cases hdeg.2
                  rcases key ph' pl' (leB_le c1) (leB_le c2) h3 c4 h5 with ⟨ha, e1, e2, hrun⟩ | ⟨a, ha, hs, hcc, hrun⟩
                  · exact absurd e1 d1
                  · have hle := leB_le c1
                    have e0 : hv - l = 0 := by omega
                    rw [e0] at hrun
                    refine ⟨_, hrun, ⟨some (if rc.val (β i) = l then a.add off else (a.add off).add (l * sz)), rc.val (β i) - l⟩, ?_, ?_, ?_⟩
                    · simp [gv, g1, gc, upd_same, RC.val, Addr.add_zero']
                    · refine r.ext hid _ _ rfl (by simp [Body.cells]) ?_
                      unfold BlkOk
                      simp only [upd_same]
                      refine ⟨?_, by simp [Body.cells], by simp [Body.cells], by simp [Body.cells], by simp⟩
                      split <;> (unfold Addr.add; split <;> (try split) <;> simp_all)
                    · intro j hj
                      simp [Cell.idOf] at hj
                      subst hj
                      simp [updL, upd_same]
              · cases he
            · cases he
          · cases he
            obtain ⟨q1, q2⟩ := Pr.and_holds hp
            obtain ⟨q3, q4⟩ := Pr.and_holds q1
            simp only [Pr.holds] at q2
            exact plain false q3 q4 q2.1 q2.2.1 q2.2.2.1 q2.2.2.2.1 q2.2.2.2.2.1 q2.2.2.2.2.2
        · cases he
      · cases he
    · cases he
  · cases he

end Go.Proofs.Ytfkmooldindfjaa
