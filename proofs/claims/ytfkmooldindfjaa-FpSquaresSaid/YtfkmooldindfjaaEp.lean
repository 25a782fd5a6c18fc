/- The executor, part p: code, and whole functions. -/
import Derived.Test.YtfkmooldindfjaaEo
import Derived.LoopN
import Derived.ScopeJumps
set_option linter.unusedSimpArgs false
set_option linter.unusedVariables false
namespace Go.Proofs.Ytfkmooldindfjaa
open Go.RowKit

def X.to : X → Exit
  | .normal => .normal
  | .exit id => .exit id
  | .goto l => .goto l
  | .ret => .ret

/-- A scope, jump by jump. -/
def ScopeGo (P : Program) (c : Code) (Q : Exit → Act → World → Prop) : Nat → Code → Act → World → Prop
  | 0, _, _, _ => False
  | n + 1, cur, a, w => cur.wp P (fun e a' w' => match e with
      | .goto l => match findLabel c l with
        | some rest => ScopeGo P c Q n rest a' w'
        | none => Q (.goto l) a' w'
      | e => Q e a' w') a w

theorem wp_scope_go {P : Program} {c : Code} {Q : Exit → Act → World → Prop} {a : Act} {w : World} (n : Nat) (h : ScopeGo P c Q n c a w) : (Code.scope c).wp P Q a w := by
  intro b k cs
  have key : ∀ n cur a w, ScopeGo P c Q n cur a w → ∃ e a' w', Q e a' w' ∧ Arrives P (lone (b.at a (.code cur :: .inScope c :: k)) cs w) b k cs e a' w' := by
    intro n
    induction n with
    | zero => intro cur a w h; exact h.elim
    | succ n ih =>
      intro cur a w h
      obtain ⟨e, a₁, w₁, hq, harr⟩ := h b (.inScope c :: k) cs
      cases e with
      | normal => exact ⟨.normal, a₁, w₁, hq, Steps.trans harr (.one step_inScope)⟩
      | exit id => exact ⟨.exit id, a₁, w₁, hq, fun k' hk => harr k' (by simp [exitTo, hk])⟩
      | goto l =>
        simp only [] at hq
        cases hf : findLabel c l with
        | none =>
          rw [hf] at hq
          exact ⟨.goto l, a₁, w₁, hq, fun k' hk => harr k' (by simp [gotoIn, hf, hk])⟩
        | some rest =>
          rw [hf] at hq
          obtain ⟨e₂, a₂, w₂, hq₂, harr₂⟩ := ih rest a₁ w₁ hq
          exact ⟨e₂, a₂, w₂, hq₂, .of_steps (harr _ (by simp [gotoIn, hf])) harr₂⟩
      | ret => exact ⟨_, a₁, w₁, hq, harr⟩
      | panic ch => exact ⟨_, a₁, w₁, hq, harr⟩
      | outgrown => exact ⟨_, a₁, w₁, hq, harr⟩
  obtain ⟨e, a', w', hq, harr⟩ := key n c a w h
  exact ⟨e, a', w', hq, .of_steps (.one step_scope) harr⟩

/-- What is to be shown of each end of a piece of code. -/
abbrev Ends (w0 : World) (R : X × St → Prop) (Q : Exit → Act → World → Prop) : Prop := ∀ r, R r → ∀ a w, SRel w0 r.2 a w → Q r.1.to a w

theorem refine_rel {w0 : World} {st : St} {a : Act} {w : World} (r : SRel w0 st a w) {c : Operand} {b : Bool} (hc : evS st.tmps c = some (.one (.c (.bool b)))) :
    SRel w0 ⟨refine st.tmps c (ofBool b), st.heap⟩ a w := by
  obtain ⟨β, h1, h2⟩ := r
  refine ⟨β, h1, ?_⟩
  cases c with
  | tmp t =>
    obtain ⟨q1, q2⟩ := h2.ok t _ hc
    refine ⟨h2.size, h2.defers, fun u v hv => ?_⟩
    simp only [refine] at hv
    rw [Tr.get_set] at hv
    by_cases e : u = t
    · subst e
      rw [if_pos rfl] at hv
      cases hv
      refine ⟨?_, okc_none (ofBool_id b)⟩
      rw [q1]
      simp only [gv, g1, gc_ofBool]
      rfl
    · rw [if_neg e] at hv
      exact h2.ok u v hv
  | _ => exact h2

theorem exec_sound {E : Env} (hE : EnvOk E) {w0 : World} : ∀ (n : Nat) (c : Code) (st : St) (R : X × St → Prop) (Q : Exit → Act → World → Prop), (exec E n c st).sat R → Ends w0 R Q →
    ∀ a w, SRel w0 st a w → c.wp E.P Q a w := by
  intro n
  induction n with
  | zero => intro c st R Q h; exact h.elim
  | succ n ih =>
    intro c st R Q h hR a w r
    cases c with
    | skip => exact wp_skip (hR _ h a w r)
    | label l => exact wp_label (hR _ h a w r)
    | exit id => exact wp_exit (hR _ h a w r)
    | goto l => exact wp_goto (hR _ h a w r)
    | ret => exact wp_ret (hR _ h a w r)
    | region id ops draw =>
      simp only [exec] at h
      rw [Tree.sat_bind] at h
      exact region_sound hE r h fun st' h' a' w' r' => hR _ h' a' w' r'
    | seq x y =>
      simp only [exec] at h
      rw [Tree.sat_bind] at h
      refine wp_seq (ih x st _ _ h (fun q hq a' w' r' => ?_) a w r)
      obtain ⟨e, st'⟩ := q
      cases e with
      | normal => exact ih y st' R Q hq hR a' w' r'
      | exit id => exact hR _ hq a' w' r'
      | goto l => exact hR _ hq a' w' r'
      | ret => exact hR _ hq a' w' r'
    | cond c x y =>
      simp only [exec] at h
      obtain ⟨β, h1, h2⟩ := r
      split at h
      · rename_i hc
        refine wp_cond_true (by have := (evS_ok h2 c _ hc).1; rw [← this]; rfl) (ih x st R Q h hR a w ⟨β, h1, h2⟩)
      · rename_i hc
        refine wp_cond_false (by have := (evS_ok h2 c _ hc).1; rw [← this]; rfl) (ih y st R Q h hR a w ⟨β, h1, h2⟩)
      · rename_i p hc
        have he : a.eval c = .bool p := by have := (evS_ok h2 c _ hc).1; rw [← this]; rfl
        have hr := refine_rel ⟨β, h1, h2⟩ hc
        refine wp_cond_split he (fun e => ?_) (fun e => ?_)
        · subst e
          exact ih x _ R Q (h.1 rfl) hR a w hr
        · subst e
          exact ih y _ R Q (h.2 rfl) hR a w hr
      · exact h.elim
    | block id x =>
      simp only [exec] at h
      rw [Tree.sat_bind] at h
      refine wp_block (ih x st _ _ h (fun q hq a' w' r' => ?_) a w r)
      obtain ⟨e, st'⟩ := q
      cases e with
      | normal => exact hR _ hq a' w' r'
      | exit id' =>
        simp only [] at hq
        show (if id' = id then Q .normal a' w' else Q (.exit id') a' w')
        split at hq
        · rename_i hb
          rw [if_pos (Nat.eq_of_beq_eq_true hb)]
          exact hR _ hq a' w' r'
        · rename_i hb
          rw [if_neg (Nat.ne_of_beq_eq_false hb)]
          exact hR _ hq a' w' r'
      | goto l => exact hR _ hq a' w' r'
      | ret => exact hR _ hq a' w' r'
    | loop x =>
      simp only [exec] at h
      have key : ∀ m st, (loopGo (exec E n x) m st).sat R → ∀ a w, SRel w0 st a w → Code.rounds E.P x Q m a w := by
        intro m
        induction m with
        | zero => intro st h; exact h.elim
        | succ m ihm =>
          intro st h a w r
          simp only [loopGo] at h
          rw [Tree.sat_bind] at h
          rw [rounds_succ]
          refine ih x st _ _ h (fun q hq a' w' r' => ?_) a w r
          obtain ⟨e, st'⟩ := q
          cases e with
          | normal => exact ihm st' hq a' w' r'
          | exit id => exact hR _ hq a' w' r'
          | goto l => exact hR _ hq a' w' r'
          | ret => exact hR _ hq a' w' r'
      exact wp_loop_rounds n (key n st h a w r)
    | scope x =>
      simp only [exec] at h
      have key : ∀ m cur st, (scopeGo (exec E n) x m cur st).sat R → ∀ a w, SRel w0 st a w → ScopeGo E.P x Q m cur a w := by
        intro m
        induction m with
        | zero => intro cur st h; exact h.elim
        | succ m ihm =>
          intro cur st h a w r
          simp only [scopeGo] at h
          rw [Tree.sat_bind] at h
          refine ih cur st _ _ h (fun q hq a' w' r' => ?_) a w r
          obtain ⟨e, st'⟩ := q
          cases e with
          | normal => exact hR _ hq a' w' r'
          | exit id => exact hR _ hq a' w' r'
          | goto l =>
            simp only [X.to] at hq ⊢
            split at hq
            · rename_i rest hf
              rw [hf]
              exact ihm rest st' hq a' w' r'
            · rename_i hf
              rw [hf]
              exact hR _ hq a' w' r'
          | ret => exact hR _ hq a' w' r'
      exact wp_scope_go n (key n x st h a w r)
    | rangeFunc f ps as bd => exact h.elim
    | refuse why => exact h.elim

/-! ## whole functions -/

/-- What the model reads of one result. -/
def resRead (tmps : Array Value) : ResultVar → Sem Value
  | .tmp t => pure (tmps.getD t Go.undef)
  | .cell x t => do loadVar t (← asAddr (tmps.getD x Go.undef))

theorem resOne_ok {P : Program} {w0 : World} {β : Nat → Pl} {st : St} {a : Act} {w : World} (h1 : HRel w0 β (hpS st.heap) w) (h2 : TRel β (hpS st.heap) st.tmps a) {r : ResultVar} {v : AV1} (h : resOne P st r = some v) :
    (resRead a.tmps r).run P w = .ok (g1 β v) w ∧ ok1 (hpS st.heap) v := by
  have slot : ∀ t u, st.tmps.tr.get t = some u → a.tmps.getD t Go.undef = gv β u ∧ okv (hpS st.heap) u := by
    intro t u hu
    have := evS_ok h2 (.tmp t) u hu
    exact ⟨this.1.symm, this.2⟩
  cases r with
  | tmp t =>
    simp only [resOne] at h
    split at h
    · rename_i u hu
      cases h
      obtain ⟨e1, e2⟩ := slot t _ hu
      exact ⟨by simp only [resRead]; rw [e1]; rfl, e2⟩
    · cases h
  | cell x t =>
    simp only [resOne] at h
    split at h
    · rename_i i off hx
      obtain ⟨e1, e2⟩ := slot x _ hx
      split at h
      · rename_i u rd wr hl
        cases h
        obtain ⟨q1, q2, _⟩ := run_actLoad h1 hl trivial
        refine ⟨?_, q2⟩
        simp only [resRead]
        rw [e1]
        have q1' : (Instr.loadAt t (gc β (.ptr i off))).run P w = .ok (g1 β v) w := q1
        unfold Instr.loadAt at q1'
        show (do loadVar t (← asAddr (gc β (.ptr i off))) : Sem Value).run P w = _
        cases hb : (β i).base with
        | none => simp [gc, hb, Instr.sureAddr] at q1'
        | some b => simpa [gc, hb, Instr.sureAddr, asAddr] using q1'
      · cases h
    · cases h

theorem resList_ok {P : Program} {w0 : World} {β : Nat → Pl} {st : St} {a : Act} {w : World} (h1 : HRel w0 β (hpS st.heap) w) (h2 : TRel β (hpS st.heap) st.tmps a) : ∀ {rs : List ResultVar} {vs : List AV1}, mapO (resOne P st) rs = some vs →
    (rs.mapM (resRead a.tmps)).run P w = .ok (vs.map (g1 β)) w ∧ ∀ v ∈ vs, ok1 (hpS st.heap) v
  | [], vs, h => by cases h; simp
  | r :: rs, vs, h => by
    simp only [mapO] at h
    split at h
    · rename_i v vs' hv hvs
      cases h
      obtain ⟨e1, e2⟩ := resOne_ok h1 h2 hv
      obtain ⟨e3, e4⟩ := resList_ok h1 h2 hvs
      refine ⟨?_, fun u hu => ?_⟩
      · simp only [List.mapM_cons, Sem.run_bind, e1, Result.andThen_ok, e3, Sem.run_pure, List.map_cons]
      · rcases List.mem_cons.1 hu with rfl | hu
        · exact e2
        · exact e4 u hu
    · cases h

theorem resAll_ok {P : Program} {fn : Func} {w0 : World} {β : Nat → Pl} {st : St} {a : Act} {w : World} (h1 : HRel w0 β (hpS st.heap) w) (h2 : TRel β (hpS st.heap) st.tmps a) {v : AV} (h : resAll P fn.results.toList st = some v) :
    (results fn a.tmps).run P w = .ok (gv β v) w ∧ okv (hpS st.heap) v := by
  unfold resAll at h
  have main : ∀ vs, mapO (resOne P st) fn.results.toList = some vs → (results fn a.tmps).run P w = .ok (if h : (vs.map (g1 β)).toArray.size = 1 then (vs.map (g1 β)).toArray[0] else .tuple (vs.map (g1 β)).toArray) w ∧ ∀ v ∈ vs, ok1 (hpS st.heap) v := by
    intro vs hvs
    obtain ⟨e1, e2⟩ := resList_ok h1 h2 hvs
    refine ⟨?_, e2⟩
    have e0 : results fn a.tmps = (do
        let vs ← fn.results.mapM (resRead a.tmps)
        pure (if h : vs.size = 1 then vs[0] else .tuple vs) : Sem Value) := by
      unfold results
      congr 1
    rw [e0, Array.mapM_eq_mapM_toList]
    simp only [Sem.run_bind, Sem.run_map, e1, Result.andThen_ok, Sem.run_pure]
  split at h
  · rename_i u hu
    cases h
    obtain ⟨e1, e2⟩ := main _ hu
    exact ⟨by simpa [gv] using e1, e2 _ (by simp)⟩
  · rename_i vs hne hvs
    cases h
    obtain ⟨e1, e2⟩ := main _ hvs
    refine ⟨?_, e2⟩
    rw [e1]
    have : ¬ (vs.map (g1 β)).toArray.size = 1 := by
      intro hs
      simp at hs
      obtain ⟨u, rfl⟩ := List.length_eq_one_iff.1 hs
      exact hne u rfl
    rw [dif_neg this]
    rfl
  · cases h

theorem Tr.args_get : ∀ (vs : List AV) (k : Nat) (t : Tr) (j : Nat) (v : AV), (Tr.args vs k t).get j = some v → (k ≤ j ∧ vs[j - k]? = some v) ∨ ((j < k ∨ k + vs.length ≤ j) ∧ t.get j = some v)
  | [], k, t, j, v, h => .inr ⟨by simp; omega, h⟩
  | u :: vs, k, t, j, v, h => by
    rcases Tr.args_get vs (k + 1) _ j v h with ⟨h1, h2⟩ | ⟨h1, h2⟩
    · refine .inl ⟨by omega, ?_⟩
      obtain ⟨i, rfl⟩ : ∃ i, j = k + 1 + i := ⟨j - (k + 1), by omega⟩
      rw [show k + 1 + i - (k + 1) = i by omega] at h2
      rw [show k + 1 + i - k = i + 1 by omega]
      simpa using h2
    · rw [Tr.get_set] at h2
      by_cases e : j = k
      · subst e
        rw [if_pos rfl] at h2
        exact .inl ⟨Nat.le_refl _, by simpa using h2⟩
      · rw [if_neg e] at h2
        exact .inr ⟨by simp only [List.length_cons]; omega, h2⟩

theorem calls_run {E : Env} (hE : EnvOk E) {f : FuncId} {fn : Func} (hf : E.P.funcs[f]? = some fn) {fuel : Nat} {avs : List AV} {heap : List HE} {β : Nat → Pl} {w : World} {R : Ending → World → Prop} (hr : HRel w β (hpS heap) w)
    (hok : ∀ v ∈ avs, okv (hpS heap) v)
    (h : (runFn E fuel fn avs heap).sat fun r => ∀ β' w', HRel w β' (hpS r.2) w' → okv (hpS r.2) r.1 → R (.returned (gv β' r.1)) w') : Calls E.P f (avs.map (gv β)).toArray w R := by
  unfold runFn at h
  cases hb : fn.body with
  | none => rw [hb] at h; exact h.elim
  | some c =>
    rw [hb] at h
    simp only [] at h
    unfold runBody at h
    rw [Tree.sat_bind] at h
    refine calls_of_wp hf hb (exec_sound hE (w0 := w) fuel c _ _ _ h (fun q hq a' w' r' => ?_) _ w ?_)
    · obtain ⟨e, st'⟩ := q
      obtain ⟨β', g1', g2'⟩ := r'
      have fin : (match resAll E.P fn.results.toList st' with | some v => Tree.leaf (v, st'.heap) | none => .fail).sat (fun r => ∀ β' w', HRel w β' (hpS r.2) w' → okv (hpS r.2) r.1 → R (.returned (gv β' r.1)) w') →
          a'.defers = [] ∧ ∃ v, (results fn a'.tmps).run E.P w' = .ok v w' ∧ R (.returned v) w' := by
        intro hq
        split at hq
        · rename_i v hv
          obtain ⟨e1, e2⟩ := resAll_ok g1' g2' hv
          exact ⟨g2'.defers, _, e1, hq β' w' g1' e2⟩
        · exact hq.elim
      cases e with
      | normal => exact fin hq
      | ret => exact fin hq
      | exit id => exact hq.elim
      | goto l => exact hq.elim
    · refine ⟨β, hr, ⟨by simp, rfl, fun t v hv => ?_⟩⟩
      rcases Tr.args_get avs 0 .nil t v hv with ⟨_, h2⟩ | ⟨_, h2⟩
      · have hlt := (List.getElem?_eq_some_iff.1 h2).1
        refine ⟨?_, hok v (List.mem_of_getElem? h2)⟩
        rw [Array.getElem?_append_left (by simpa using hlt)]
        simpa using ⟨v, h2, rfl⟩
      · cases h2

end Go.Proofs.Ytfkmooldindfjaa
