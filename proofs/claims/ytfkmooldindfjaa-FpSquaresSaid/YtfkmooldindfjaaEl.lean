/- The executor, part l: on what an operation's effect hangs. -/
import Derived.Test.YtfkmooldindfjaaEk
set_option linter.unusedSimpArgs false
set_option linter.unusedVariables false
namespace Go.Proofs.Ytfkmooldindfjaa
open Go.RowKit

theorem mapO_congr {α β : Type} {f g : α → Option β} : ∀ {xs : List α}, (∀ x ∈ xs, f x = g x) → mapO f xs = mapO g xs
  | [], _ => rfl
  | x :: xs, h => by
    have e := mapO_congr (f := f) (g := g) (xs := xs) (fun y hy => h y (by simp [hy]))
    simp only [mapO, h x (by simp), e]

theorem liveOf_congr {h h' : Heap} {i : Nat} (e : h i = h' i) : liveOf h i = liveOf h' i := by unfold liveOf; rw [e]

/-- The effect hangs on the operands' values alone, and on the heap. -/
theorem act_ev {E : Env} {id : Nat} {ev ev' : Operand → Option AV} {h : Heap} {o : Oper} (H : ∀ x ∈ o.op.operands.toList, ev x = ev' x) : act E id ev h o = act E id ev' h o := by
  unfold act
  cases hop : o.op with
  | move x => simp only [H x (by rw [hop]; simp [Op.operands])]
  | assign x => simp only [H x (by rw [hop]; simp [Op.operands])]
  | pick c a b => simp only [H c (by rw [hop]; simp [Op.operands]), H a (by rw [hop]; simp [Op.operands]), H b (by rw [hop]; simp [Op.operands])]
  | box t x => simp only [H x (by rw [hop]; simp [Op.operands])]
  | build t parts =>
    simp only []
    congr 1
    unfold partsC
    exact mapO_congr fun p hp => by
      rw [H p.2 (by rw [hop]; simp only [Op.operands]; exact List.mem_map_of_mem hp)]
  | load t a => simp only [H a (by rw [hop]; simp [Op.operands])]
  | store t a x => simp only [H a (by rw [hop]; simp [Op.operands]), H x (by rw [hop]; simp [Op.operands])]
  | nilCheck x => simp only [H x (by rw [hop]; simp [Op.operands])]
  | binOp op t x y yt => simp only [H x (by rw [hop]; simp [Op.operands]), H y (by rw [hop]; simp [Op.operands])]
  | unOp op t x => simp only [H x (by rw [hop]; simp [Op.operands])]
  | convert s d x => simp only [H x (by rw [hop]; simp [Op.operands])]
  | sliceToArrayPointer t x => simp only [H x (by rw [hop]; simp [Op.operands])]
  | slice t x lo hi mx =>
    have e1 : lo.map ev = lo.map ev' := by cases lo with | none => rfl | some y => simp [H y (by rw [hop]; simp [Op.operands])]
    have e2 : hi.map ev = hi.map ev' := by cases hi with | none => rfl | some y => simp [H y (by rw [hop]; simp [Op.operands])]
    have e3 : mx.map ev = mx.map ev' := by cases mx with | none => rfl | some y => simp [H y (by rw [hop]; simp [Op.operands])]
    simp only [H x (by rw [hop]; simp [Op.operands]), e1, e2, e3]
  | fieldAddr s x f => simp only [H x (by rw [hop]; simp [Op.operands])]
  | field t x f => simp only [H x (by rw [hop]; simp [Op.operands])]
  | indexAddr t x ix => simp only [H x (by rw [hop]; simp [Op.operands]), H ix (by rw [hop]; simp [Op.operands])]
  | index t x ix => simp only [H x (by rw [hop]; simp [Op.operands]), H ix (by rw [hop]; simp [Op.operands])]
  | extract x k => simp only [H x (by rw [hop]; simp [Op.operands])]
  | call c =>
    have e1 : mapO ev c.args.toList = mapO ev' c.args.toList := mapO_congr fun x hx => H x (by rw [hop]; simp only [Op.operands, Call.operands]; simp at hx ⊢; simp [hx])
    simp only [e1]
    cases hc : c.callee with
    | value f => simp only [H f (by rw [hop]; simp [Op.operands, Call.operands, hc])]
    | builtin b => rfl
    | invoke _ _ => rfl
  | buildSlice t len parts =>
    simp only []
    congr 1
    unfold partsC
    exact mapO_congr fun p hp => by
      rw [H p.2 (by rw [hop]; simp only [Op.operands]; exact List.mem_map_of_mem hp)]
  | makeSlice t l c => simp only [H l (by rw [hop]; simp [Op.operands]), H c (by rw [hop]; simp [Op.operands])]
  | _ => rfl

/-- What an effect says that it read. -/
theorem act_near {E : Env} (hE : EnvOk E) {id : Nat} {ev : Operand → Option AV} {h h' : Heap} {o : Oper} {e : Eff} (he : act E id ev h o = some e) (H : ∀ i ∈ e.reads, h i = h' i) : act E id ev h' o = some e := by
  unfold act at he ⊢
  split at he
  case h_1 => exact he
  case h_2 => exact he
  case h_3 => exact he
  case h_4 => exact he
  case h_5 => exact he
  case h_6 => exact he
  case h_7 t a hop =>
    split at he
    · rename_i i off ha
      have hr : i ∈ e.reads := by
        unfold actLoad at he
        split at he
        · split at he
          · cases he
          · split at he
            · split at he
              · cases he; simp
              · cases he
            · cases he
        · cases he
      unfold actLoad at he ⊢
      rw [← liveOf_congr (H i hr)]
      exact he
    · cases he
  case h_8 t a x hop =>
    split at he
    · rename_i i off v ha hx
      have hr : i ∈ e.reads := by
        unfold actStore at he
        split at he
        · split at he
          · split at he
            · cases he; simp
            · cases he
          · cases he
        · cases he
      unfold actStore at he ⊢
      rw [← liveOf_congr (H i hr)]
      exact he
    · cases he
  case h_9 x hop =>
    split at he
    · rename_i v hv
      unfold actNilCheck at he ⊢
      split at he
      · rename_i i off
        have hr : i ∈ e.reads := by
          split at he
          · split at he
            · cases he; simp
            · cases he
          · cases he
        simp only [← liveOf_congr (H i hr)]
        exact he
      · cases he
    · cases he
  case h_10 => exact he
  case h_11 => exact he
  case h_12 => exact he
  case h_13 t x hop =>
    split at he
    · rename_i v hv
      unfold actArrayAt at he ⊢
      split at he
      · rename_i i off len sz rc n el hu
        have hr : i ∈ e.reads := by
          split at he
          · split at he
            · split at he
              · cases he; simp
              · cases he
            · cases he
          · cases he
        simp only [← liveOf_congr (H i hr)]
        exact he
      · cases he
    · cases he
  case h_14 t x lo hi mx hop =>
    split at he
    · rename_i v hv
      unfold actSlice at he ⊢
      split at he
      · rename_i i off n el hu
        have hr : i ∈ e.reads := by
          split at he
          · split at he
            · split at he
              · split at he
                · split at he
                  · cases he; simp
                  · cases he; simp
                · cases he
              · split at he
                · cases he; simp
                · cases he
              · cases he
            · cases he
          · cases he
        simp only [← liveOf_congr (H i hr)]
        exact he
      · rename_i i off len sz rc kn el hu
        have hr : i ∈ e.reads := by
          split at he
          · split at he
            · split at he
              · split at he
                · split at he
                  · split at he
                    · split at he
                      · cases he; simp
                      · cases he; simp
                    · cases he
                  · cases he
                · cases he; simp
              · cases he
            · cases he
          · cases he
        simp only [← liveOf_congr (H i hr)]
        exact he
      · cases he
    · cases he
  case h_15 s x f hop =>
    split at he
    · rename_i v hv
      unfold actFieldAddr at he ⊢
      split at he
      · rename_i i off fs hu
        have hr : i ∈ e.reads := by
          split at he
          · split at he
            · split at he
              · cases he
              · cases he; simp
            · cases he
          · cases he
        simp only [← liveOf_congr (H i hr)]
        exact he
      · cases he
    · cases he
  case h_16 => exact he
  case h_17 t x ix hop =>
    split at he
    · rename_i v k hv hk
      unfold actIndexAddr at he ⊢
      split at he
      · rename_i i off n el hu
        have hr : i ∈ e.reads := by
          split at he
          · split at he
            · cases he; simp
            · cases he
          · cases he
        simp only [← liveOf_congr (H i hr)]
        exact he
      · rename_i i off len sz rc kn el hu
        have hr : i ∈ e.reads := by
          split at he
          · split at he
            · split at he
              · cases he; simp
              · cases he
            · cases he; simp
            · cases he
          · cases he
        simp only [← liveOf_congr (H i hr)]
        exact he
      · cases he
    · cases he
  case h_18 => exact he
  case h_19 => exact he
  case h_20 c hop =>
    split at he
    · rename_i f hcallee
      split at he
      · rename_i fn args hf hargs
        split at he
        · rename_i r hr
          have hreads : ∀ i ∈ r.reads, h i = h' i := by
            split at he
            · cases he; exact H
            · split at he
              · cases he; exact H
              · cases he
          rw [hE.near fn id h h' args r hr hreads]
          exact he
        · cases he
      · cases he
    · rename_i b hcallee
      split at he
      · rename_i args hargs
        split at he
        · rename_i x t ht
          unfold actLen at he ⊢
          split at he
          · rename_i i off len sz rc kn el hu
            have hr : i ∈ e.reads := by
              split at he
              · split at he
                · split at he
                  · cases he; simp
                  · cases he
                · cases he; simp
              · cases he
            simp only [← liveOf_congr (H i hr)]
            exact he
          all_goals exact he
        · exact he
        · exact he
        · cases he
      · cases he
    · cases he
  case h_21 => exact he
  case h_22 => exact he
  case h_23 => cases he

theorem actLoad_wr {P : Program} {h : Heap} {t : TypeId} {i off : Nat} {e : Eff} (he : actLoad P h t i off = some e) : e.wr = [] := by
  unfold actLoad at he
  split at he
  · split at he
    · cases he
    · split at he
      · split at he
        · cases he; rfl
        · cases he
      · cases he
  · cases he

/-- What an effect may write: a name that the operation took, or one that is in use. -/
theorem act_wr {E : Env} {id : Nat} {ev : Operand → Option AV} {h : Heap} {o : Oper} {e : Eff} (he : act E id ev h o = some e) :
    ∀ p ∈ e.wr, p.2 ≠ .un ∧ ((p.1 = id ∧ takes E o = true) ∨ h p.1 ≠ .un) := by
  have nil : e.wr = [] → ∀ p ∈ e.wr, p.2 ≠ .un ∧ ((p.1 = id ∧ takes E o = true) ∨ h p.1 ≠ .un) := fun e0 p hp => by rw [e0] at hp; cases hp
  unfold act at he
  split at he
  case h_1 => split at he <;> cases he <;> exact nil rfl
  case h_2 => split at he <;> cases he <;> exact nil rfl
  case h_3 =>
    split at he
    · unfold actPick at he
      split at he
      · split at he <;> cases he <;> exact nil rfl
      · split at he <;> cases he <;> exact nil rfl
      · split at he
        · split at he <;> cases he <;> exact nil rfl
        · cases he
      · cases he
    · cases he
  case h_4 t hop =>
    split at he <;> cases he
    intro p hp
    simp at hp
    subst hp
    exact ⟨by simp, .inl ⟨rfl, by simp [takes, hop]⟩⟩
  case h_5 t x hop =>
    split at he
    · split at he <;> cases he
      intro p hp
      simp at hp
      subst hp
      exact ⟨by simp, .inl ⟨rfl, by simp [takes, hop]⟩⟩
    · cases he
  case h_6 =>
    unfold actBuild at he
    split at he
    · split at he <;> cases he <;> exact nil rfl
    · cases he
  case h_7 => split at he <;> first | exact nil (actLoad_wr he) | cases he
  case h_8 =>
    split at he
    · rename_i i off v ha hx
      unfold actStore at he
      split at he
      · rename_i b ti vs hb hti hvs
        split at he
        · split at he
          · cases he
            intro p hp
            simp at hp
            subst hp
            exact ⟨by simp, .inr (by rw [liveOf_some hb]; simp)⟩
          · cases he
        · cases he
      · cases he
    · cases he
  case h_9 =>
    split at he
    · unfold actNilCheck at he
      split at he
      · split at he
        · split at he <;> cases he <;> exact nil rfl
        · cases he
      · cases he
    · cases he
  case h_10 =>
    split at he
    · split at he <;> cases he <;> exact nil rfl
    · cases he
  case h_11 =>
    split at he
    · split at he <;> cases he <;> exact nil rfl
    · cases he
  case h_12 =>
    split at he
    · split at he <;> cases he <;> exact nil rfl
    · cases he
  case h_13 =>
    split at he
    · unfold actArrayAt at he
      split at he
      · split at he
        · split at he
          · split at he <;> cases he <;> exact nil rfl
          · cases he
        · cases he
      · cases he
    · cases he
  case h_14 t x lo hi mx hop =>
    split at he
    · unfold actSlice at he
      split at he
      · split at he
        · split at he
          · split at he
            · split at he
              · split at he <;> cases he <;> exact nil rfl
              · cases he
            · split at he <;> cases he <;> exact nil rfl
            · cases he
          · cases he
        · cases he
      · split at he
        · split at he
          · split at he
            · split at he
              · split at he
                · split at he
                  · split at he
                    · cases he; exact nil rfl
                    · cases he
                      intro p hp
                      simp at hp
                      subst hp
                      exact ⟨by simp, .inl ⟨rfl, by simp [takes, hop]⟩⟩
                  · cases he
                · cases he
              · cases he; exact nil rfl
            · cases he
          · cases he
        · cases he
      · cases he
    · cases he
  case h_15 =>
    split at he
    · unfold actFieldAddr at he
      split at he
      · split at he
        · split at he
          · split at he <;> cases he <;> exact nil rfl
          · cases he
        · cases he
      · cases he
    · cases he
  case h_16 =>
    split at he
    · unfold actField at he
      split at he
      · split at he
        · split at he <;> cases he <;> exact nil rfl
        · cases he
      · cases he
    · cases he
  case h_17 =>
    split at he
    · unfold actIndexAddr at he
      split at he
      · split at he
        · split at he <;> cases he <;> exact nil rfl
        · cases he
      · split at he
        · split at he
          · split at he <;> cases he <;> exact nil rfl
          · cases he; exact nil rfl
          · cases he
        · cases he
      · cases he
    · cases he
  case h_18 =>
    split at he
    · unfold actIndex at he
      split at he
      · split at he
        · split at he <;> cases he <;> exact nil rfl
        · cases he
      · cases he
    · cases he
  case h_19 =>
    split at he
    · unfold actExtract at he
      split at he
      · split at he <;> cases he <;> exact nil rfl
      · cases he
    · cases he
  case h_20 c hop =>
    split at he
    · split at he
      · split at he
        · split at he
          · cases he; exact nil rfl
          · split at he
            · rename_i ht
              cases he
              intro p hp
              simp at hp
              subst hp
              exact ⟨by simp, .inl ⟨rfl, ht⟩⟩
            · cases he
        · cases he
      · cases he
    · split at he
      · split at he
        · unfold actLen at he
          split at he
          · split at he
            · split at he
              · split at he <;> cases he <;> exact nil rfl
              · cases he; exact nil rfl
            · cases he
          all_goals first | (cases he; done) | (cases he; exact nil rfl)
        · unfold actMM at he
          split at he
          · split at he <;> cases he <;> exact nil rfl
          · cases he
        · unfold actMM at he
          split at he
          · split at he <;> cases he <;> exact nil rfl
          · cases he
        · cases he
      · cases he
    · cases he
  case h_21 t len parts hop =>
    unfold actBuildSlice at he
    split at he
    · split at he
      · split at he
        · cases he
          intro p hp
          simp at hp
          subst hp
          exact ⟨by simp, .inl ⟨rfl, by simp [takes, hop]⟩⟩
        · cases he
      · cases he
    · cases he
  case h_22 t l c hop =>
    split at he
    · unfold actMakeSlice at he
      split at he
      · split at he
        · split at he
          · split at he
            · cases he
              intro p hp
              simp at hp
              subst hp
              exact ⟨by simp, .inl ⟨rfl, by simp [takes, hop]⟩⟩
            · cases he
          · split at he
            · split at he
              · cases he
                intro p hp
                simp at hp
                subst hp
                exact ⟨by simp, .inl ⟨rfl, by simp [takes, hop]⟩⟩
              · cases he
            · cases he
          · cases he
        · cases he
      · cases he
    · cases he
  case h_23 => cases he

end Go.Proofs.Ytfkmooldindfjaa
