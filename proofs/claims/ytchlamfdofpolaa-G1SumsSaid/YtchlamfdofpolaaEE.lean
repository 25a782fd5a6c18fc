/- The executor: rounds that keep the blocks to which slots point. -/
import Derived.Test.YtchlamfdofpolaaED
set_option linter.unusedSimpArgs false
set_option linter.unusedVariables false
namespace Go.Proofs.Ytchlamfdofpolaa
open Go.RowKit

def cutP (f : X × St → Option (List Nat × List Nat)) (t : Tree (X × St)) : Tree (X × St) := t.bind fun r => match f r with
  | none => .leaf r
  | some (keep, hs) => match shrink keep hs r.2 with
    | some st => .leaf (r.1, st)
    | none => .fail

def roundP (E : Env) (n : Nat) (B : Code) (st : St) (f : X × St → Option (List Nat × List Nat)) : Tree (X × St) := cutP f (exec E n B st)

theorem Does.roundP {E : Env} (hE : EnvOk E) (n : Nat) {B : Code} {st : St} {R : X × St → Prop} (f : X × St → Option (List Nat × List Nat)) {T : Tree (X × St)} (e : Go.Proofs.Ytchlamfdofpolaa.roundP E n B st f = T) (h : T.sat R) : Does E B st R := fun w0 Q hR a w r => by
  subst e
  unfold Go.Proofs.Ytchlamfdofpolaa.roundP cutP at h
  rw [Tree.sat_bind] at h
  refine exec_sound hE n B st _ Q h (fun q hq a' w' r' => ?_) a w r
  simp only [] at hq
  split at hq
  · exact hR _ hq a' w' r'
  · split at hq
    · rename_i st' hs
      exact hR _ hq a' w' (shrink_rel hs r')
    · exact hq.elim

/-- The block to which a slot points. -/
def slotBlk (st : St) (k : Nat) : Nat := match st.tmps.tr.get k with
  | some (.one (.c (.slc i _ _ _ _ _))) => i
  | some (.one (.c (.ptr i _))) => i
  | _ => 0
/-- Keep some slots, some blocks, and the blocks to which some slots point. -/
def following (keep hs slots : List Nat) : X × St → Option (List Nat × List Nat) := fun r => some (keep, hs ++ slots.map (slotBlk r.2))

/-- Some pieces of a list, with whatever ends they have. -/
def partT (E : Env) (n : Nat) (cs : List Code) (st : St) (f : X × St → Option (List Nat × List Nat)) : Tree (X × St) := cutP f (execL E n cs st)

theorem DoesL.part {E : Env} (hE : EnvOk E) (n k : Nat) (f : X × St → Option (List Nat × List Nat)) {cs : List Code} {st : St} {R : X × St → Prop} {T : Tree (X × St)} (e : partT E n (cs.take k) st f = T)
    (h : T.sat (ThenX R fun s => DoesL E (cs.drop k) s R)) : DoesL E cs st R := by
  subst e
  rw [← List.take_append_drop k cs]
  refine DoesL.join (DoesL.wn (DoesL.exec hE n ?_))
  unfold partT cutP at h
  rw [Tree.sat_bind] at h
  refine Tree.sat_mono (fun q hq => ?_) h
  split at hq
  · exact ⟨q.2, Wk.refl _, hq⟩
  · split at hq
    · rename_i st' hs
      exact ⟨st', Wk.shrink hs, hq⟩
    · exact hq.elim

/-- Some pieces in which the function may answer, with whatever other ends they have. -/
theorem DoesL.partR {ρ : Type} {E : Env} (hE : EnvOk E) {o : Out ρ} (n k : Nat) {fn : Func} {cs : List Code} {st : St} (keep hs : List Nat) {x : ρ} {R : X × St → Prop} (hR : ∀ s, EndsAs E fn (Reads o x) (.ret, s) → R (.ret, s)) {T : Tree ((X × St) ⊕ Option (ρ × Pr))}
    (e : iterT E o n fn (cs.take k) st keep hs = T) (h : T.sat (Iter (ThenX R fun s => DoesL E (cs.drop k) s R) x)) : DoesL E cs st R := by
  have h1 := DoesL.iter (R := ThenX R fun s => DoesL E (cs.drop k) s R) hE n keep hs e h
  rw [← List.take_append_drop k cs]
  refine DoesL.join (DoesL.wn (DoesL.mono h1 fun r hr => ?_))
  obtain ⟨e, s⟩ := r
  cases e with
  | ret => exact Wn.of (hR s hr)
  | normal => exact hr
  | exit id => exact hr
  | goto l => exact hr

end Go.Proofs.Ytchlamfdofpolaa
