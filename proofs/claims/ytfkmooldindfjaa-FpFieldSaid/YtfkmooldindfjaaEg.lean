/- The executor, part g: what one operation does is what the model does. -/
import Derived.Test.YtfkmooldindfjaaEf
set_option linter.unusedSimpArgs false
set_option linter.unusedVariables false
namespace Go.Proofs.Ytfkmooldindfjaa
open Go.RowKit

/-- An operation comes to a value and a world, by itself or by a call. -/
def OpRuns (P : Program) (o : Oper) (ρ : Operand → Value) (w : World) (R : Value → World → Prop) : Prop :=
  (∃ v w', (execOp ρ o).run P w = .ok (.value v) w' ∧ R v w') ∨ (∃ w', (execOp ρ o).run P w = .ok .skip w' ∧ R Go.undef w') ∨
    ∃ f args w1, (execOp ρ o).run P w = .ok (.enter f args) w1 ∧ Calls P f args w1 fun e w' => ∃ v, e = .returned v ∧ R v w'

theorem OpRuns.wp {P : Program} {o : Oper} {a : Act} {w : World} {R : Value → World → Prop} (h : OpRuns P o a.eval w R) {next : Act → World → Prop} {Q : Exit → Act → World → Prop}
    (hn : ∀ v w', R v w' → next (a.put o.dst v) w') : o.wp P a w next Q := by
  unfold Oper.wp
  rcases h with ⟨v, w', e, r⟩ | ⟨w', e, r⟩ | ⟨f, args, w1, e, r⟩
  · rw [e]; exact hn _ _ r
  · rw [e]; exact hn _ _ r
  · rw [e]
    refine Calls.mono r fun e' w' ⟨v, he, hr⟩ => ?_
    subst he
    exact hn _ _ hr

/-- A called function comes to a value and a world. -/
def FnRuns (P : Program) (f : FuncId) (args : Array Value) (w : World) (R : Value → World → Prop) : Prop :=
  (∃ v w', (callFunc f args).run P w = .ok (.value v) w' ∧ R v w') ∨
    ((callFunc f args).run P w = .ok (.enter f args) w ∧ Calls P f args w fun e w' => ∃ v, e = .returned v ∧ R v w')

def updL (h : Heap) : List (Nat × HE) → Heap
  | [] => h
  | (i, x) :: rest => updL (upd h i x) rest

/-- What an effect says of the world behind it. -/
def EffOk (w0 : World) (β : Nat → Pl) (h : Heap) (id : Nat) (val : AV) (wr : List (Nat × HE)) (v : Value) (w' : World) : Prop :=
  ∃ p, v = gv (upd β id p) val ∧ HRel w0 (upd β id p) (updL h wr) w' ∧ okv (updL h wr) val

def newL (id : Nat) (b : Option Blk) : List (Nat × HE) := match b with | some b => [(id, .live b)] | none => []

structure EnvOk (E : Env) : Prop where
  mixed : E.P.follows .mixedOrders = true
  call : ∀ f id h args r, E.C f id h args = some r → r.pre.holds → ∀ w0 β w, HRel w0 β h w → h id = .un → (∀ v ∈ args, okv h v) →
    FnRuns E.P f (args.map (gv β)).toArray w (EffOk w0 β h id r.val (newL id r.new))
  near : ∀ f id h h' args r, E.C f id h args = some r → (∀ i ∈ r.reads, h i = h' i) → E.C f id h' args = some r

theorem upd_self {α : Type} (f : Nat → α) (i : Nat) : upd f i (f i) = f := by
  funext j; unfold upd; split <;> simp_all

/-- Nothing is named anew. -/
theorem EffOk.same {w0 : World} {β : Nat → Pl} {h : Heap} {id : Nat} {val : AV} {wr : List (Nat × HE)} {w' : World} (h1 : HRel w0 β (updL h wr) w') (h2 : okv (updL h wr) val) :
    EffOk w0 β h id val wr (gv β val) w' := ⟨β id, by rw [upd_self], by rw [upd_self]; exact h1, h2⟩

theorem EffOk.pure {w0 : World} {β : Nat → Pl} {h : Heap} {id : Nat} {val : AV} {w : World} (h1 : HRel w0 β h w) (h2 : okv h val) :
    EffOk w0 β h id val [] (gv β val) w := EffOk.same h1 h2

theorem ofVal_gc {v : Value} {c : Cell} (h : ofVal v = some c) (β : Nat → Pl) : gc β c = v := by
  unfold ofVal at h
  split at h <;> cases h <;> first | rfl | exact gc_ofBool β _ | (simp only [gc])

theorem ofVal_ok {v : Value} {c : Cell} (h : ofVal v = some c) : c.idOf = none := by
  unfold ofVal at h
  split at h <;> cases h <;> first | rfl | (rename_i b; cases b <;> rfl)

theorem mapO_map {α β γ : Type} {f : α → Option β} {g : β → γ} {k : α → γ} (hfg : ∀ x y, f x = some y → g y = k x) {xs : List α} {ys : List β} (h : mapO f xs = some ys) : ys.map g = xs.map k := by
  induction xs generalizing ys with
  | nil => cases h; rfl
  | cons x xs ih =>
    simp only [mapO] at h
    split at h
    · rename_i y ys' hy hys
      cases h
      simp [ih hys, hfg x y hy]
    · cases h

theorem mapO_mem {α β : Type} {f : α → Option β} {p : β → Prop} (hp : ∀ x y, f x = some y → p y) {xs : List α} {ys : List β} (h : mapO f xs = some ys) : ∀ y ∈ ys, p y := by
  induction xs generalizing ys with
  | nil => cases h; simp
  | cons x xs ih =>
    simp only [mapO] at h
    split at h
    · rename_i y ys' hy hys
      cases h
      intro z hz
      rcases List.mem_cons.1 hz with rfl | hz
      · exact hp _ _ hy
      · exact ih hys z hz
    · cases h

theorem ofConst_gv {v : Value} {a : AV} (h : ofConst v = some a) (β : Nat → Pl) : gv β a = v := by
  unfold ofConst at h
  split at h
  · rename_i cs
    split at h
    · rename_i xs hx
      cases h
      simp only [gv, g1]
      rw [mapO_map (g := gc β) (k := _root_.id) (fun x y hxy => ofVal_gc hxy β) hx]
      simp
    · cases h
  · split at h
    · rename_i c hc
      cases h
      exact ofVal_gc hc β
    · cases h

theorem okc_none {h : Heap} {c : Cell} (hc : c.idOf = none) : okc h c := by intro i hi; rw [hc] at hi; cases hi

theorem ofConst_ok {v : Value} {a : AV} (h : ofConst v = some a) (hp : Heap) : okv hp a := by
  unfold ofConst at h
  split at h
  · split at h
    · rename_i xs hx
      cases h
      exact mapO_mem (p := okc hp) (fun x y hxy => okc_none (ofVal_ok hxy)) hx
    · cases h
  · split at h
    · rename_i c hc
      cases h
      exact okc_none (ofVal_ok hc)
    · cases h

theorem zeroC_spec {P : Program} {t : TypeId} {cs : List Cell} (h : zeroC P t = some cs) (β : Nat → Pl) : ∃ i z, P.info? t = some i ∧ i.zero = some z ∧ z.cells = (cs.map (gc β)).toArray := by
  unfold zeroC at h
  split at h
  · cases h
  · rename_i i hi
    split at h
    · cases h
    · rename_i z hz
      refine ⟨i, z, hi, hz, ?_⟩
      rw [mapO_map (g := gc β) (k := _root_.id) (fun x y hxy => ofVal_gc hxy β) h]
      simp

theorem zeroC_ok {P : Program} {t : TypeId} {cs : List Cell} (h : zeroC P t = some cs) (hp : Heap) : ∀ c ∈ cs, okc hp c := by
  unfold zeroC at h
  split at h
  · cases h
  · split at h
    · cases h
    · exact mapO_mem (p := okc hp) (fun x y hxy => okc_none (ofVal_ok hxy)) h

theorem cellsOfV_gv {v : AV} {cs : List Cell} (h : cellsOfV v = some cs) (β : Nat → Pl) : (gv β v).cells = (cs.map (gc β)).toArray := by
  unfold cellsOfV at h
  split at h <;> cases h
  · simp only [gv, g1, gc_cells]; rfl
  · rfl

theorem cellsOfV_ok {v : AV} {cs : List Cell} (h : cellsOfV v = some cs) {hp : Heap} (hv : okv hp v) : ∀ c ∈ cs, okc hp c := by
  unfold cellsOfV at h
  split at h <;> cases h
  · intro c hc; simp at hc; subst hc; exact hv
  · exact hv

/-- A new variable. -/
theorem EffOk.alloc {w0 : World} {β : Nat → Pl} {h : Heap} {w : World} (r : HRel w0 β h w) {id : Nat} (hid : h id = .un) (t : TypeId) (cs : List Cell) (hok : ∀ c ∈ cs, okc h c) :
    EffOk w0 β h id (.one (.c (.ptr id 0))) [(id, .live ⟨true, t, 0, .row cs⟩)] (.pointer (some ⟨w.heap.size, 0, none⟩)) (w.alloc (.cells (cs.map (gc β)).toArray t)) := by
  refine ⟨⟨some ⟨w.heap.size, 0, none⟩, 0⟩, ?_, ?_, ?_⟩
  · simp [gv, g1, gc, upd_same, Addr.add]
  · exact r.new hid ((Below.refl _ _).alloc (Nat.le_refl _) _) w.heap.size 0 t 0 (.row cs) (cs.map (gc β)).toArray (Nat.le_refl _) (heap_alloc_new w _)
      (fun i c hc => by simp only [Body.cells] at hc; simp [hc]) (by simp [Body.cells]) (fun e => absurd rfl e) (fun _ => by simp [Body.cells]) hok
  · intro i hi
    simp [Cell.idOf] at hi
    subst hi
    simp [updL, upd_same]

theorem liveOf_some {h : Heap} {i : Nat} {b : Blk} (e : liveOf h i = some b) : h i = .live b := by
  unfold liveOf at e
  split at e
  · cases e; assumption
  · cases e

theorem pack_some {g : Bool} {xs : List Cell} {v : AV1} (h : pack g xs = some v) (β : Nat → Pl) : g1 β v = packV g (xs.map (gc β)) ∧ (∀ hp : Heap, (∀ c ∈ xs, okc hp c) → ok1 hp v) := by
  unfold pack at h
  split at h
  · cases h; exact ⟨rfl, fun hp H => H⟩
  · split at h
    · cases h; exact ⟨rfl, fun hp H => H _ (by simp)⟩
    · cases h

/-- What a body's piece is. -/
theorem Body.get_spec {b : Body} {off n : Nat} {r : Cond (List Cell)} (h : b.get off n = some r) (hp : r.pre.holds) : r.val = (b.cells.drop off).take n ∧ r.val.length = n := by
  unfold Body.get at h
  split at h
  · rename_i cs
    simp only [] at h
    split at h
    · rename_i hl
      cases h
      exact ⟨rfl, by simpa using hl⟩
    · cases h
  · rename_i xs
    split at h
    · cases h
      simp only [Pr.holds] at hp
      refine ⟨?_, rfl⟩
      simp only [Body.cells]
      rw [List.drop_eq_getElem_cons (by simpa using hp)]
      simp [List.getD, hp]
    · cases h
  · rename_i xs
    split at h
    · cases h
      simp only [Pr.holds] at hp
      refine ⟨?_, rfl⟩
      simp only [Body.cells]
      rw [List.drop_eq_getElem_cons (by simpa using hp)]
      simp [List.getD, hp]
    · cases h

theorem HRel.base_some {w0 : World} {β : Nat → Pl} {h : Heap} {w : World} (r : HRel w0 β h w) {i : Nat} {b : Blk} (hi : h i = .live b) (hne : b.body.cells ≠ [] ∨ b.esz = 0) : ∃ a, (β i).base = some a ∧ a.spot = none := by
  have hb := r.blk i b hi
  unfold BlkOk at hb
  cases ha : (β i).base with
  | none =>
    rw [ha] at hb
    rcases hne with h1 | h1
    · exact absurd hb.1 h1
    · exact absurd h1 hb.2.2
  | some a => rw [ha] at hb; exact ⟨a, rfl, hb.1⟩

theorem run_actLoad {P : Program} {w0 : World} {β : Nat → Pl} {h : Heap} {w : World} (r : HRel w0 β h w) {t : TypeId} {i off : Nat} {e : Eff} (he : actLoad P h t i off = some e) (hp : e.pre.holds) :
    (Instr.loadAt t (gc β (.ptr i off))).run P w = .ok (gv β e.val) w ∧ okv h e.val ∧ e.wr = [] := by
  unfold actLoad at he
  split at he
  · rename_i b ti g hb hti hg
    have hi := liveOf_some hb
    split at he
    · cases he
    · rename_i n hn
      split at he
      · rename_i pre xs hx
        split at he
        · rename_i v hv
          cases he
          obtain ⟨e1, e2⟩ := pack_some hv β
          have hpc : Pr.holds pre := hp
          obtain ⟨e3, e4⟩ := Body.get_spec hx hpc
          simp only at e3 e4
          have hne : b.body.cells ≠ [] := by
            intro e0
            rw [e0] at e3
            simp at e3
            rw [e3] at e4
            simp at e4
          obtain ⟨a, ha, hs⟩ := r.base_some hi (.inl hne)
          have hrd := r.read hi ha off
          have hcells : ∀ j v, (xs.map (gc β))[j]? = some v → w.cell? ((a.add off).add j) = some v := by
            intro j v hj
            apply hrd j v
            rw [e3] at hj
            rw [List.getElem?_map] at hj ⊢
            rw [List.getElem?_take] at hj
            split at hj
            · exact hj
            · cases hj
          have hl := run_loadCells_list (P := P) w (a.add off) (xs.map (gc β)) hcells
          refine ⟨?_, e2 h (fun c hc => r.okc i b hi c ?_), rfl⟩
          · simp only [gc, ha, Option.map_some, Instr.loadAt, Instr.sureAddr, Sem.run_bind, Sem.run_pure, Result.andThen_ok, loadVar, run_isAgg hg, gv, e1]
            cases g with
            | true =>
              simp only [if_true, Sem.run_bind, run_sizeOf hti, Result.andThen_ok]
              have hsz : P.cellsOf t = (xs.map (gc β)).length := by simp [Program.cellsOf, hti, hn, e4]
              rw [hsz, hl]
              rfl
            | false =>
              simp only [Bool.false_eq_true, if_false, run_load]
              unfold pack at hv
              split at hv
              · rename_i hgt; cases hgt
              · split at hv
                · rename_i c
                  cases hv
                  have := hcells 0 (gc β c) (by simp)
                  rw [show (a.add off).add 0 = a.add off from Addr.add_zero' _] at this
                  rw [this]
                  rfl
                · cases hv
          · rw [e3] at hc
            exact List.mem_of_mem_drop (List.mem_of_mem_take hc)
        · cases he
      · cases he
  · cases he

end Go.Proofs.Ytfkmooldindfjaa
