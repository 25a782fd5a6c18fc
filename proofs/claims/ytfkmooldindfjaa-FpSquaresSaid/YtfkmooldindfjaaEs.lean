/- The executor, part s: states made small; code piece by piece; loops by what holds at each round. -/
import Derived.Test.YtfkmooldindfjaaEr
set_option linter.unusedSimpArgs false
set_option linter.unusedVariables false
namespace Go.Proofs.Ytfkmooldindfjaa
open Go.RowKit

/-! ## states made small: some slots are kept, and some blocks, under new names -/

def nameOf : List Nat → Nat → Nat → Option Nat
  | [], _, _ => none
  | x :: xs, k, i => match Nat.beq x i with
    | true => some k
    | false => nameOf xs (k + 1) i

def renC (hs : List Nat) (c : Cell) : Option Cell :=
  match c with
  | .ptr id off => match nameOf hs 0 id with | some j => some (.ptr j off) | none => none
  | .slc id off len sz rc kn => match nameOf hs 0 id with | some j => some (.slc j off len sz rc kn) | none => none
  | c => some c

def ren1 (hs : List Nat) (v : AV1) : Option AV1 :=
  match v with
  | .c x => match renC hs x with | some y => some (.c y) | none => none
  | .agg xs => match mapO (renC hs) xs with | some ys => some (.agg ys) | none => none

def renV (hs : List Nat) (v : AV) : Option AV :=
  match v with
  | .one u => match ren1 hs u with | some x => some (.one x) | none => none
  | .tup us => match mapO (ren1 hs) us with | some xs => some (.tup xs) | none => none

def renBody (hs : List Nat) (b : Body) : Option Body :=
  match b with
  | .row cs => match mapO (renC hs) cs with | some xs => some (.row xs) | none => none
  | .u64s xs => some (.u64s xs)
  | .u8s xs => some (.u8s xs)

def renHE (hs : List Nat) (x : HE) : Option HE :=
  match x with
  | .live ⟨own, ty, esz, body⟩ => match renBody hs body with | some y => some (.live ⟨own, ty, esz, y⟩) | none => none
  | _ => none

def nodupB : List Nat → Bool
  | [] => true
  | x :: xs => !(xs.any fun y => Nat.beq x y) && nodupB xs

def mkTr : List (Nat × AV) → Tr
  | [] => .nil
  | (t, v) :: l => (mkTr l).set t v

def mkSt (n : Nat) (l : List (Nat × AV)) (h : List HE) : St := ⟨⟨n, mkTr l⟩, h⟩

def keepT (hs : List Nat) (tr : Tr) (t : Nat) : Option (Nat × AV) :=
  match tr.get t with
  | some v => match renV hs v with | some u => some (t, u) | none => none
  | none => none

def shrink (keep hs : List Nat) (st : St) : Option St :=
  match nodupB hs, mapO (keepT hs st.tmps.tr) keep, mapO (fun i => renHE hs (hpS st.heap i)) hs with
  | true, some l, some h => some (mkSt st.tmps.n l h)
  | _, _, _ => none

theorem mapO_get {α β : Type} {f : α → Option β} : ∀ {xs : List α} {ys : List β}, mapO f xs = some ys → ys.length = xs.length ∧ ∀ (i : Nat) (y : β), ys[i]? = some y → ∃ x, xs[i]? = some x ∧ f x = some y
  | [], ys, h => by cases h; simp
  | x :: xs, ys, h => by
    simp only [mapO] at h
    split at h
    · rename_i y ys' hy hys
      cases h
      obtain ⟨h1, h2⟩ := mapO_get hys
      refine ⟨by simp [h1], fun i z hz => ?_⟩
      cases i with
      | zero => simp at hz; subst hz; exact ⟨x, by simp, hy⟩
      | succ i => simpa using h2 i z (by simpa using hz)
    · cases h

theorem mapO_all {α β : Type} {f : α → Option β} {p : β → Prop} (hf : ∀ x y, f x = some y → p y) : ∀ {xs : List α} {ys : List β}, mapO f xs = some ys → ∀ y ∈ ys, p y
  | [], ys, h => by cases h; simp
  | x :: xs, ys, h => by
    simp only [mapO] at h
    split at h
    · rename_i y ys' hy hys
      cases h
      intro z hz
      rcases List.mem_cons.1 hz with rfl | hz
      · exact hf _ _ hy
      · exact mapO_all hf hys z hz
    · cases h

theorem nameOf_spec : ∀ {xs : List Nat} {k i j : Nat}, nameOf xs k i = some j → k ≤ j ∧ xs[j - k]? = some i
  | [], _, _, _, h => by cases h
  | x :: xs, k, i, j, h => by
    simp only [nameOf] at h
    split at h
    · rename_i hb
      cases h
      have := Nat.eq_of_beq_eq_true hb
      subst this
      simp
    · obtain ⟨h1, h2⟩ := nameOf_spec h
      refine ⟨by omega, ?_⟩
      rw [show j - k = (j - (k + 1)) + 1 by omega]
      simpa using h2

theorem nodupB_spec : ∀ {xs : List Nat}, nodupB xs = true → ∀ (i j x : Nat), xs[i]? = some x → xs[j]? = some x → i = j
  | [], _, i, j, x, hi, _ => by simp at hi
  | y :: ys, h, i, j, x, hi, hj => by
    simp only [nodupB, Bool.and_eq_true, Bool.not_eq_true', List.any_eq_false] at h
    cases i with
    | zero =>
      cases j with
      | zero => rfl
      | succ j =>
        simp at hi hj
        subst hi
        exact absurd (Nat.beq_refl y) (by simpa using h.1 y (List.mem_of_getElem? hj))
    | succ i =>
      cases j with
      | zero =>
        simp at hi hj
        subst hj
        exact absurd (Nat.beq_refl y) (by simpa using h.1 y (List.mem_of_getElem? hi))
      | succ j => rw [nodupB_spec h.2 i j x (by simpa using hi) (by simpa using hj)]

/-- The place of a new name. -/
def plOf (β : Nat → Pl) (hs : List Nat) : Nat → Pl := fun i => β ((hs[i]?).getD 0)

theorem renC_ok {hs : List Nat} {c c' : Cell} (h : renC hs c = some c') (β : Nat → Pl) : gc (plOf β hs) c' = gc β c ∧ ∀ i, c'.idOf = some i → i < hs.length := by
  cases c <;> simp only [renC] at h
  case ptr id off =>
    split at h
    · rename_i j hj
      cases h
      have := (nameOf_spec hj).2
      simp only [Nat.sub_zero] at this
      refine ⟨by simp only [gc, plOf, this, Option.getD_some], fun i hi => ?_⟩
      cases hi
      exact (List.getElem?_eq_some_iff.1 this).1
    · cases h
  case slc id off len sz rc kn =>
    split at h
    · rename_i j hj
      cases h
      have := (nameOf_spec hj).2
      simp only [Nat.sub_zero] at this
      refine ⟨by simp only [gc, plOf, this, Option.getD_some], fun i hi => ?_⟩
      cases hi
      exact (List.getElem?_eq_some_iff.1 this).1
    · cases h
  all_goals (cases h; exact ⟨rfl, fun i hi => by cases hi⟩)

theorem ren1_ok {hs : List Nat} {v v' : AV1} (h : ren1 hs v = some v') (β : Nat → Pl) {hp : Heap} (hh : ∀ i, i < hs.length → hp i ≠ .un) : g1 (plOf β hs) v' = g1 β v ∧ ok1 hp v' := by
  cases v with
  | c x =>
    simp only [ren1] at h
    split at h
    · rename_i y hy
      cases h
      obtain ⟨h1, h2⟩ := renC_ok hy β
      exact ⟨h1, fun i hi => hh i (h2 i hi)⟩
    · cases h
  | agg xs =>
    simp only [ren1] at h
    split at h
    · rename_i ys hys
      cases h
      refine ⟨?_, mapO_all (fun x y e => fun i hi => hh i ((renC_ok e β).2 i hi)) hys⟩
      simp only [g1]
      rw [mapO_map (fun x y e => (renC_ok e β).1) hys]
    · cases h

theorem renV_ok {hs : List Nat} {v v' : AV} (h : renV hs v = some v') (β : Nat → Pl) {hp : Heap} (hh : ∀ i, i < hs.length → hp i ≠ .un) : gv (plOf β hs) v' = gv β v ∧ okv hp v' := by
  cases v with
  | one u =>
    simp only [renV] at h
    split at h
    · rename_i x hx
      cases h
      exact ren1_ok hx β hh
    · cases h
  | tup us =>
    simp only [renV] at h
    split at h
    · rename_i xs hxs
      cases h
      refine ⟨?_, mapO_all (fun x y e => (ren1_ok e β hh).2) hxs⟩
      simp only [gv]
      rw [mapO_map (fun x y e => (ren1_ok e β hh).1) hxs]
    · cases h

theorem renBody_ok {hs : List Nat} {b b' : Body} (h : renBody hs b = some b') (β : Nat → Pl) : b'.cells.map (gc (plOf β hs)) = b.cells.map (gc β) ∧ ∀ c ∈ b'.cells, ∀ i, c.idOf = some i → i < hs.length := by
  cases b with
  | row cs =>
    simp only [renBody] at h
    split at h
    · rename_i xs hxs
      cases h
      exact ⟨mapO_map (fun x y e => (renC_ok e β).1) hxs, mapO_all (fun x y e => (renC_ok e β).2) hxs⟩
    · cases h
  | u64s xs =>
    cases h
    refine ⟨by simp [Body.cells, gc], fun c hc i hi => ?_⟩
    simp only [Body.cells, List.mem_map] at hc
    obtain ⟨x, _, rfl⟩ := hc
    cases hi
  | u8s xs =>
    cases h
    refine ⟨by simp [Body.cells, gc], fun c hc i hi => ?_⟩
    simp only [Body.cells, List.mem_map] at hc
    obtain ⟨x, _, rfl⟩ := hc
    cases hi

theorem BlkOk.ren {β : Nat → Pl} {B : Nat} {w : World} {hs : List Nat} {i k : Nat} {b : Blk} {body : Body} (hk : hs[i]? = some k) (hb : BlkOk β B w k b) (hr : renBody hs b.body = some body) :
    BlkOk (plOf β hs) B w i { b with body := body } := by
  have e1 : plOf β hs i = β k := by simp only [plOf, hk, Option.getD_some]
  obtain ⟨h1, _⟩ := renBody_ok hr β
  have hlen : body.cells.length = b.body.cells.length := by have := congrArg List.length h1; simpa using this
  unfold BlkOk at *
  rw [e1]
  cases ha : (β k).base with
  | none =>
    rw [ha] at hb
    exact ⟨List.length_eq_zero_iff.1 (by rw [hlen, hb.1]; rfl), hb.2⟩
  | some a =>
    rw [ha] at hb
    obtain ⟨q0, q1, q2, q3, q4⟩ := hb
    simp only [] at q0 q1 q2 q3 q4 ⊢
    refine ⟨q0, fun j c hc => ?_, fun ho hne => q2 ho fun e => hne (List.length_eq_zero_iff.1 (by rw [hlen, e]; rfl)), fun he => by rw [hlen]; exact q3 he, fun ho => ?_⟩
    · have e2 : (body.cells.map (gc (plOf β hs)))[j]? = some (gc (plOf β hs) c) := by rw [List.getElem?_map, hc]; rfl
      rw [h1, List.getElem?_map] at e2
      cases hc' : b.body.cells[j]? with
      | none => rw [hc'] at e2; cases e2
      | some c' =>
        rw [hc'] at e2
        simp only [Option.map_some, Option.some.injEq] at e2
        rw [q1 j c' hc', e2]
    · obtain ⟨r1, r2, cur, r3, r4, r5, r6⟩ := q4 ho
      exact ⟨r1, r2, cur, r3, by rw [hlen]; exact r4, r5, fun he => by rw [hlen]; exact r6 he⟩

theorem mkTr_get : ∀ (l : List (Nat × AV)) (t : Nat) (v : AV), (mkTr l).get t = some v → (t, v) ∈ l
  | [], t, v, h => by cases h
  | (k, x) :: l, t, v, h => by
    simp only [mkTr] at h
    rw [Tr.get_set] at h
    by_cases e : t = k
    · subst e
      rw [if_pos rfl] at h
      cases h
      simp
    · rw [if_neg e] at h
      exact List.mem_cons_of_mem _ (mkTr_get l t v h)

theorem shrink_rel {keep hs : List Nat} {st st' : St} (h : shrink keep hs st = some st') {w0 : World} {a : Act} {w : World} (r : SRel w0 st a w) : SRel w0 st' a w := by
  unfold shrink at h
  split at h
  · rename_i l hp hn hl hh
    cases h
    obtain ⟨β, h1, h2⟩ := r
    obtain ⟨hlen, hget⟩ := mapO_get hh
    have live : ∀ (i : Nat) (x : HE), hp[i]? = some x → ∃ (k : Nat) (b : Blk) (body : Body), hs[i]? = some k ∧ hpS st.heap k = HE.live b ∧ renBody hs b.body = some body ∧ x = HE.live { b with body := body } := by
      intro i x hx
      obtain ⟨k, hk, hr⟩ := hget i x hx
      unfold renHE at hr
      split at hr
      · rename_i own ty esz body hb
        split at hr
        · rename_i y hy
          cases hr
          exact ⟨k, _, y, hk, hb, hy, rfl⟩
        · cases hr
      · cases hr
    have named : ∀ i, i < hs.length → hpS hp i ≠ .un := by
      intro i hi
      rw [← hlen] at hi
      rw [hpS_get, List.getElem?_eq_getElem hi]
      obtain ⟨k, b, body, _, _, _, e⟩ := live i hp[i] (List.getElem?_eq_getElem hi)
      rw [Option.getD_some, e]
      intro h; cases h
    have liveH : ∀ i b', hpS hp i = .live b' → ∃ (k : Nat) (b : Blk) (body : Body), hs[i]? = some k ∧ hpS st.heap k = HE.live b ∧ renBody hs b.body = some body ∧ b' = { b with body := body } := by
      intro i b' hb'
      rw [hpS_get] at hb'
      cases hx : hp[i]? with
      | none => rw [hx] at hb'; cases hb'
      | some x =>
        rw [hx, Option.getD_some] at hb'
        obtain ⟨k, b, body, e1, e2, e3, e4⟩ := live i x hx
        rw [e4] at hb'
        cases hb'
        exact ⟨k, b, body, e1, e2, e3, rfl⟩
    refine ⟨plOf β hs, ⟨h1.below, fun i b' hb' => ?_, fun i j b c hb hc hne ho hoc hbase => ?_, fun i b' hb' c hc => ?_⟩, ⟨h2.size, h2.defers, fun t v hv => ?_⟩⟩
    · obtain ⟨k, b, body, e1, e2, e3, rfl⟩ := liveH i b' hb'
      exact (h1.blk k b e2).ren e1 e3
    · obtain ⟨k, b1, body, e1, e2, e3, rfl⟩ := liveH i b hb
      obtain ⟨k', b2, body', f1, f2, f3, rfl⟩ := liveH j c hc
      have hkk : k ≠ k' := by
        rintro rfl
        exact hne (nodupB_spec hn i j k e1 f1)
      have g1 : plOf β hs i = β k := by simp only [plOf, e1, Option.getD_some]
      have g2 : plOf β hs j = β k' := by simp only [plOf, f1, Option.getD_some]
      rw [g1] at hbase
      rw [g1, g2]
      exact h1.sep k k' b1 b2 e2 f2 hkk ho hoc hbase
    · obtain ⟨k, b, body, e1, e2, e3, rfl⟩ := liveH i b' hb'
      exact fun j hj => named j ((renBody_ok e3 β).2 c hc j hj)
    · have hmem := mkTr_get l t v hv
      have := mapO_all (p := fun q : Nat × AV => ∃ u, st.tmps.tr.get q.1 = some u ∧ renV hs u = some q.2) (fun x y e => by
        unfold keepT at e
        split at e
        · rename_i u hu
          split at e
          · rename_i u' hu'
            cases e
            exact ⟨u, hu, hu'⟩
          · cases e
        · cases e) hl (t, v) hmem
      obtain ⟨u, e1, e2⟩ := this
      obtain ⟨f1, f2⟩ := h2.ok t u e1
      obtain ⟨g1, g2⟩ := renV_ok e2 β (hp := hpS hp) named
      exact ⟨by rw [f1]; exact congrArg some g1.symm, g2⟩
  · cases h

/-- The ends of a piece of code, made small. -/
def cutT (f : X → Option (List Nat × List Nat)) (t : Tree (X × St)) : Tree (X × St) := t.bind fun r => match f r.1 with
  | none => .leaf r
  | some (keep, hs) => match shrink keep hs r.2 with
    | some st => .leaf (r.1, st)
    | none => .fail

/-! ## code, piece by piece -/

def Does (E : Env) (c : Code) (st : St) (R : X × St → Prop) : Prop :=
  ∀ (w0 : World) (Q : Exit → Act → World → Prop), Ends w0 R Q → ∀ a w, SRel w0 st a w → c.wp E.P Q a w

theorem Does.mono {E : Env} {c : Code} {st : St} {R R' : X × St → Prop} (h : Does E c st R) (hR : ∀ r, R r → R' r) : Does E c st R' := fun w0 Q hQ => h w0 Q fun r hr => hQ r (hR r hr)

theorem Does.run {E : Env} (hE : EnvOk E) {c : Code} {st : St} {R : X × St → Prop} (f : X → Option (List Nat × List Nat)) (n : Nat) (h : (cutT f (exec E n c st)).sat R) : Does E c st R := fun w0 Q hR a w r => by
  unfold cutT at h
  rw [Tree.sat_bind] at h
  refine exec_sound hE n c st _ Q h (fun q hq a' w' r' => ?_) a w r
  simp only [] at hq
  split at hq
  · exact hR _ hq a' w' r'
  · split at hq
    · rename_i st' hs
      exact hR _ hq a' w' (shrink_rel hs r')
    · exact hq.elim

def ThenX (R : X × St → Prop) (K : St → Prop) : X × St → Prop := fun r => match r.1 with
  | .normal => K r.2
  | _ => R r

theorem Does.seq {E : Env} {x y : Code} {st : St} {R : X × St → Prop} (h : Does E x st (ThenX R fun s => Does E y s R)) : Does E (.seq x y) st R := fun w0 Q hR a w r =>
  wp_seq (h w0 _ (fun q hq a' w' r' => by
    obtain ⟨e, st'⟩ := q
    cases e with
    | normal => exact hq w0 Q hR a' w' r'
    | exit id => exact hR _ hq a' w' r'
    | goto l => exact hR _ hq a' w' r'
    | ret => exact hR _ hq a' w' r') a w r)

def flat : Code → List Code
  | .seq a b => flat a ++ flat b
  | c => [c]

/-- What a state stands for, another one does. -/
def Wk (s s' : St) : Prop := ∀ w0 a w, SRel w0 s a w → SRel w0 s' a w

theorem Wk.refl (s : St) : Wk s s := fun _ _ _ h => h
theorem Wk.trans {a b c : St} (x : Wk a b) (y : Wk b c) : Wk a c := fun _ _ _ h => y _ _ _ (x _ _ _ h)
theorem Wk.shrink {keep hs : List Nat} {st st' : St} (h : Go.Proofs.Ytfkmooldindfjaa.shrink keep hs st = some st') : Wk st st' := fun _ _ _ r => shrink_rel h r

/-- At an end with no less known. -/
def Wn (R : X × St → Prop) : X × St → Prop := fun r => ∃ s, Wk r.2 s ∧ R (r.1, s)

theorem Wn.of {R : X × St → Prop} {r : X × St} (h : R r) : Wn R r := ⟨r.2, Wk.refl _, h⟩

theorem Does.wn {E : Env} {c : Code} {st : St} {R : X × St → Prop} (h : Does E c st (Wn R)) : Does E c st R := fun w0 Q hR => h w0 Q fun q ⟨s, hs, hq⟩ a w r => hR (q.1, s) hq a w (hs _ _ _ r)

theorem Does.wk {E : Env} {c : Code} {st st' : St} {R : X × St → Prop} (h : Wk st st') (hd : Does E c st' R) : Does E c st R := fun w0 Q hR a w r => hd w0 Q hR a w (h _ _ _ r)

def DoesL (E : Env) : List Code → St → (X × St → Prop) → Prop
  | [], st, R => Wn R (.normal, st)
  | c :: cs, st, R => Does E c st (ThenX R fun s => DoesL E cs s R)

theorem ThenX.mono {R R' : X × St → Prop} {K K' : St → Prop} (h1 : ∀ r, R r → R' r) (h2 : ∀ s, K s → K' s) : ∀ r, ThenX R K r → ThenX R' K' r := by
  rintro ⟨e, s⟩ h
  cases e with
  | normal => exact h2 s h
  | exit id => exact h1 _ h
  | goto l => exact h1 _ h
  | ret => exact h1 _ h

theorem DoesL.mono {E : Env} : ∀ {cs : List Code} {st : St} {R R' : X × St → Prop}, DoesL E cs st R → (∀ r, R r → R' r) → DoesL E cs st R'
  | [], _, _, _, h, hR => by
    obtain ⟨s, h1, h2⟩ := h
    exact ⟨s, h1, hR _ h2⟩
  | _ :: _, _, _, _, h, hR => Does.mono h (ThenX.mono hR fun _ hs => DoesL.mono hs hR)

theorem DoesL.wk {E : Env} : ∀ {cs : List Code} {st st' : St} {R : X × St → Prop}, Wk st st' → DoesL E cs st' R → DoesL E cs st R
  | [], _, _, _, h, hd => by
    obtain ⟨s, h1, h2⟩ := hd
    exact ⟨s, h.trans h1, h2⟩
  | _ :: _, _, _, _, h, hd => Does.wk h hd

theorem DoesL.append {E : Env} : ∀ {xs ys : List Code} {st : St} {R : X × St → Prop}, DoesL E (xs ++ ys) st R → DoesL E xs st (ThenX R fun s => DoesL E ys s R)
  | [], _, st, _, h => ⟨st, Wk.refl _, h⟩
  | x :: xs, ys, st, R, h => Does.mono h fun r hr => by
    obtain ⟨e, s⟩ := r
    cases e with
    | normal => exact DoesL.append hr
    | exit id => exact hr
    | goto l => exact hr
    | ret => exact hr

theorem DoesL.join {E : Env} : ∀ {xs ys : List Code} {st : St} {R : X × St → Prop}, DoesL E xs st (ThenX R fun s => DoesL E ys s R) → DoesL E (xs ++ ys) st R
  | [], _, _, _, h => by
    obtain ⟨s, h1, h2⟩ := h
    exact DoesL.wk h1 h2
  | x :: xs, ys, st, R, h => Does.mono h fun r hr => by
    obtain ⟨e, s⟩ := r
    cases e with
    | normal => exact DoesL.join hr
    | exit id => exact hr
    | goto l => exact hr
    | ret => exact hr

theorem Does.flat {E : Env} : ∀ (c : Code) {st : St} {R : X × St → Prop}, DoesL E (Go.Proofs.Ytfkmooldindfjaa.flat c) st R → Does E c st R := by
  have one : ∀ {c : Code} {st : St} {R : X × St → Prop}, DoesL E [c] st R → Does E c st R := fun h => Does.wn (Does.mono h fun r hr => by
    obtain ⟨e, s⟩ := r
    cases e with
    | normal => exact hr
    | exit id => exact Wn.of hr
    | goto l => exact Wn.of hr
    | ret => exact Wn.of hr)
  intro c
  induction c with
  | seq a b iha ihb =>
    intro st R h
    simp only [Go.Proofs.Ytfkmooldindfjaa.flat] at h
    exact Does.seq (iha (DoesL.mono (DoesL.append h) (ThenX.mono (fun _ x => x) fun s hs => ihb hs)))
  | _ => intro st R h; exact one h

/-- Pieces run one behind the other. -/
def execL (E : Env) (n : Nat) : List Code → St → Tree (X × St)
  | [], st => .leaf (.normal, st)
  | c :: cs, st => (exec E n c st).bind fun r => match r.1 with
    | .normal => execL E n cs r.2
    | _ => .leaf r

theorem DoesL.exec {E : Env} (hE : EnvOk E) (n : Nat) : ∀ {cs : List Code} {st : St} {R : X × St → Prop}, (execL E n cs st).sat R → DoesL E cs st R
  | [], st, _, h => ⟨st, Wk.refl _, h⟩
  | c :: cs, st, R, h => by
    simp only [execL] at h
    rw [Tree.sat_bind] at h
    refine Does.run hE (fun _ => none) n ?_
    unfold cutT
    rw [Tree.sat_bind]
    refine Tree.sat_mono (fun q hq => ?_) h
    obtain ⟨e, s⟩ := q
    cases e with
    | normal => exact DoesL.exec hE n hq
    | exit id => exact hq
    | goto l => exact hq
    | ret => exact hq

/-- So many pieces, and what is left of the state behind them. -/
def stageT (E : Env) (n : Nat) (cs : List Code) (st : St) (keep hs : List Nat) : Tree St := (execL E n cs st).bind fun r => match r.1 with
  | .normal => match shrink keep hs r.2 with
    | some s => .leaf s
    | none => .fail
  | _ => .fail

/-- The first k pieces at once. -/
theorem DoesL.stage {E : Env} (hE : EnvOk E) (n k : Nat) (keep hs : List Nat) {cs : List Code} {st : St} {R : X × St → Prop} (h : (stageT E n (cs.take k) st keep hs).sat fun s => DoesL E (cs.drop k) s R) : DoesL E cs st R := by
  rw [← List.take_append_drop k cs]
  refine DoesL.join (DoesL.exec hE n ?_)
  unfold stageT at h
  rw [Tree.sat_bind] at h
  refine Tree.sat_mono (fun q hq => ?_) h
  obtain ⟨e, s⟩ := q
  cases e with
  | normal =>
    simp only [] at hq
    split at hq
    · rename_i s' hs'
      exact DoesL.wk (Wk.shrink hs') hq
    · exact hq.elim
  | exit id => exact hq.elim
  | goto l => exact hq.elim
  | ret => exact hq.elim

theorem Does.block {E : Env} {id : Nat} {c : Code} {st : St} {R : X × St → Prop}
    (h : Does E c st fun r => match r.1 with | .exit id' => (match Nat.beq id' id with | true => R (.normal, r.2) | false => R r) | _ => R r) : Does E (.block id c) st R := fun w0 Q hR a w r =>
  wp_block (h w0 _ (fun q hq a' w' r' => by
    obtain ⟨e, st'⟩ := q
    cases e with
    | normal => exact hR _ hq a' w' r'
    | exit id' =>
      simp only [] at hq
      show (if id' = id then Q .normal a' w' else Q (.exit id') a' w')
      split at hq
      · rename_i hb
        rw [if_pos (Nat.eq_of_beq_eq_true hb)]
        exact hR _ hq a' w' r'
      · rename_i hb
        rw [if_neg (Nat.ne_of_beq_eq_false hb)]
        exact hR _ hq a' w' r'
    | goto l => exact hR _ hq a' w' r'
    | ret => exact hR _ hq a' w' r') a w r)

theorem Does.loop {E : Env} {c : Code} {R : X × St → Prop} {ι : Type} (I : ι → St) (m : ι → Nat)
    (h : ∀ i, Does E c (I i) fun r => match r.1 with | .normal => ∃ j, m j < m i ∧ r.2 = I j | _ => R r) (i : ι) : Does E (.loop c) (I i) R := fun w0 Q hR a w r => by
  have key : ∀ n i, m i < n → ∀ a w, SRel w0 (I i) a w → Code.rounds E.P c Q n a w := by
    intro n
    induction n with
    | zero => intro i hi; omega
    | succ n ih =>
      intro i hi a w r
      rw [rounds_succ]
      refine h i w0 _ (fun q hq a' w' r' => ?_) a w r
      obtain ⟨e, st'⟩ := q
      cases e with
      | normal =>
        obtain ⟨j, hj, e⟩ := hq
        simp only [] at e
        subst e
        exact ih j (by omega) a' w' r'
      | exit id => exact hR _ hq a' w' r'
      | goto l => exact hR _ hq a' w' r'
      | ret => exact hR _ hq a' w' r'
  exact wp_loop_rounds _ (key (m i + 1) i (by omega) a w r)

/-- A scope with one label that is jumped back to. -/
theorem Does.scope {E : Env} {c rest : Code} {l : Nat} (hf : findLabel c l = some rest) {R : X × St → Prop} {ι : Type} (I : ι → St) (m : ι → Nat) {st : St}
    (N : Nat) (h0 : Does E c st fun r => match r.1 with | .goto l' => l' = l ∧ ∃ j, m j < N ∧ r.2 = I j | _ => R r)
    (h : ∀ i, Does E rest (I i) fun r => match r.1 with | .goto l' => l' = l ∧ ∃ j, m j < m i ∧ r.2 = I j | _ => R r) : Does E (.scope c) st R := fun w0 Q hR a w r => by
  have key : ∀ n i, m i < n → ∀ a w, SRel w0 (I i) a w → ScopeGo E.P c Q n rest a w := by
    intro n
    induction n with
    | zero => intro i hi; omega
    | succ n ih =>
      intro i hi a w r
      refine h i w0 _ (fun q hq a' w' r' => ?_) a w r
      obtain ⟨e, st'⟩ := q
      cases e with
      | normal => exact hR _ hq a' w' r'
      | exit id => exact hR _ hq a' w' r'
      | goto l' =>
        obtain ⟨e1, j, hj, e⟩ := hq
        simp only [] at e
        subst e1 e
        simp only [X.to]
        rw [hf]
        exact ih j (by omega) a' w' r'
      | ret => exact hR _ hq a' w' r'
  refine wp_scope_go (N + 1) (h0 w0 _ (fun q hq a' w' r' => ?_) a w r)
  obtain ⟨e, st'⟩ := q
  cases e with
  | normal => exact hR _ hq a' w' r'
  | exit id => exact hR _ hq a' w' r'
  | goto l' =>
    obtain ⟨e1, j, hj, e⟩ := hq
    simp only [] at e
    subst e1 e
    simp only [X.to]
    rw [hf]
    exact key N j hj a' w' r'
  | ret => exact hR _ hq a' w' r'

/-! ## whole functions, piece by piece -/

def startSt (fn : Func) (avs : List AV) (heap : List HE) : St := ⟨⟨avs.length + (fn.ntmps - avs.length), Tr.args avs 0 .nil⟩, heap⟩

def isEnd : X → Prop
  | .normal => True
  | .ret => True
  | _ => False

/-- At a function's end, with such answers. -/
def EndsAs (E : Env) (fn : Func) (S : AV → List HE → Prop) : X × St → Prop := fun q => isEnd q.1 ∧ ∃ v, resAll E.P fn.results.toList q.2 = some v ∧ S v q.2.heap

theorem calls_does {E : Env} {f : FuncId} {fn : Func} (hf : E.P.funcs[f]? = some fn) {c : Code} (hb : fn.body = some c) {avs : List AV} {heap : List HE} {β : Nat → Pl} {w : World} {R : Ending → World → Prop}
    (hr : HRel w β (hpS heap) w) (hok : ∀ v ∈ avs, okv (hpS heap) v) {S : AV → List HE → Prop} (h : DoesL E (flat c) (startSt fn avs heap) (EndsAs E fn S))
    (hS : ∀ v hp, S v hp → ∀ β' w', HRel w β' (hpS hp) w' → okv (hpS hp) v → R (.returned (gv β' v)) w') : Calls E.P f (avs.map (gv β)).toArray w R := by
  refine calls_of_wp hf hb (Does.flat c h w _ (fun q hq a' w' r' => ?_) _ w ?_)
  · obtain ⟨e, st'⟩ := q
    obtain ⟨β', g1', g2'⟩ := r'
    obtain ⟨he, v, hv, hs⟩ := hq
    obtain ⟨e1, e2⟩ := resAll_ok g1' g2' hv
    have fin : a'.defers = [] ∧ ∃ v, (results fn a'.tmps).run E.P w' = .ok v w' ∧ R (.returned v) w' := ⟨g2'.defers, _, e1, hS v _ hs β' w' g1' e2⟩
    cases e with
    | normal => exact fin
    | ret => exact fin
    | exit id => exact he.elim
    | goto l => exact he.elim
  · refine ⟨β, hr, ⟨by simp [startSt], rfl, fun t v hv => ?_⟩⟩
    rcases Tr.args_get avs 0 .nil t v hv with ⟨_, h2⟩ | ⟨_, h2⟩
    · have hlt := (List.getElem?_eq_some_iff.1 h2).1
      refine ⟨?_, hok v (List.mem_of_getElem? h2)⟩
      rw [Array.getElem?_append_left (by simpa using hlt)]
      simpa using ⟨v, h2, rfl⟩
    · cases h2

/-- The last pieces of a function, and what it answers. -/
def finT {ρ : Type} (E : Env) (r : Rs ρ) (n : Nat) (fn : Func) (cs : List Code) (st : St) : Tree (Option ρ) := (execL E n cs st).bind fun q => match q.1 with
  | .normal | .ret => match resAll E.P fn.results.toList q.2 with
    | some v => .leaf (r.rd v)
    | none => .fail
  | _ => .fail

def Says {ρ : Type} (r : Rs ρ) (x : ρ) : AV → List HE → Prop := fun v _ => r.rd v = some x

theorem DoesL.fin {ρ : Type} {E : Env} (hE : EnvOk E) {r : Rs ρ} (n : Nat) {fn : Func} {cs : List Code} {st : St} {x : ρ} {T : Tree (Option ρ)} (e : finT E r n fn cs st = T) (h : T.sat fun q => q = some x) :
    DoesL E cs st (EndsAs E fn (Says r x)) := by
  subst e
  refine DoesL.exec hE n ?_
  unfold finT at h
  rw [Tree.sat_bind] at h
  refine Tree.sat_mono (fun q hq => ?_) h
  obtain ⟨e, s⟩ := q
  have fin : (match resAll E.P fn.results.toList s with | some v => Tree.leaf (r.rd v) | none => .fail).sat (fun q => q = some x) → ∃ v, resAll E.P fn.results.toList s = some v ∧ r.rd v = some x := by
    intro h
    split at h
    · rename_i v hv
      exact ⟨v, hv, h⟩
    · exact h.elim
  cases e with
  | normal => exact ⟨trivial, fin hq⟩
  | ret => exact ⟨trivial, fin hq⟩
  | exit id => exact hq.elim
  | goto l => exact hq.elim

theorem gives_does {ρ : Type} {E : Env} {f : FuncId} {fn : Func} (hf : E.P.funcs[f]? = some fn) {c : Code} (hb : fn.body = some c) {avs : List AV} (hok : ∀ v ∈ avs, okv (hpS []) v) {r : Rs ρ} {x : ρ} (w : World)
    (h : DoesL E (flat c) (startSt fn avs []) (EndsAs E fn (Says r x))) : Gives E.P f (avs.map (gv β0)).toArray w r.res x :=
  calls_does hf hb (HRel.start w β0) hok h fun v hp hs β' w' hr _ => ⟨_, rfl, hr.below, r.rd_ok v x hs β'⟩

theorem Q1 {α ρ : Type} {E : Env} {f : FuncId} {fn : Func} (hf : E.P.funcs[f]? = some fn) {c : Code} (hb : fn.body = some c) (hd : Bodied E.P f) (a : Kd α) (r : Rs ρ) (F : α → ρ)
    (h : ∀ x, DoesL E (flat c) (startSt fn [.one (a.av x)] []) (EndsAs E fn (Says r (F x)))) : CallOk E.P f (K1 a.arg r.res F) :=
  K1_ok hd fun w v x hv => by
    have := gives_does hf hb (by simp only [List.mem_singleton]; rintro v rfl; exact a.av_id x _) w (h x)
    simp only [List.map_cons, List.map_nil, gv, a.av_ok] at this
    rw [show v = a.val x from hv]
    exact this

theorem Q2 {α β ρ : Type} {E : Env} {f : FuncId} {fn : Func} (hf : E.P.funcs[f]? = some fn) {c : Code} (hb : fn.body = some c) (hd : Bodied E.P f) (a : Kd α) (b : Kd β) (r : Rs ρ) (F : α → β → ρ)
    (h : ∀ x y, DoesL E (flat c) (startSt fn [.one (a.av x), .one (b.av y)] []) (EndsAs E fn (Says r (F x y)))) : CallOk E.P f (K2 a.arg b.arg r.res F) :=
  K2_ok hd fun w v x u y hv hu => by
    have := gives_does hf hb (avs := [.one (a.av x), .one (b.av y)]) (by
      intro v hv
      simp only [List.mem_cons, List.not_mem_nil, or_false] at hv
      rcases hv with rfl | rfl
      · exact a.av_id x _
      · exact b.av_id y _) w (h x y)
    simp only [List.map_cons, List.map_nil, gv, a.av_ok, b.av_ok] at this
    rw [show v = a.val x from hv, show u = b.val y from hu]
    exact this

def codeOf (fn : Func) : Code := match fn.body with | some c => c | none => .skip

def loopsOf : Code → List Code
  | .seq a b => loopsOf a ++ loopsOf b
  | .cond _ a b => loopsOf a ++ loopsOf b
  | .block _ a => loopsOf a
  | .loop a => a :: loopsOf a
  | .scope a => loopsOf a
  | _ => []

/-- A function's k-th loop's body. -/
def loopAt (fn : Func) (k : Nat) : Code := match nth (loopsOf (codeOf fn)) k with | some c => c | none => .skip

/-- A loop in its block. -/
theorem DoesL.blockLoop {E : Env} {cs rest : List Code} {id : Nat} {B : Code} (e : cs = .block id (.loop B) :: rest) {R : X × St → Prop} {ι : Type} (I : ι → St) (m : ι → Nat) (i : ι)
    (h : ∀ i, Does E B (I i) fun r => match r.1 with
      | .normal => ∃ j, m j < m i ∧ r.2 = I j
      | .exit id' => Nat.beq id' id = true ∧ DoesL E rest r.2 R
      | .ret => R r
      | .goto _ => False) : DoesL E cs (I i) R := by
  subst e
  show Does E _ _ _
  refine Does.block (Does.loop I m (fun i => Does.mono (h i) fun r hr => ?_) i)
  obtain ⟨e, s⟩ := r
  cases e with
  | normal => exact hr
  | exit id' =>
    obtain ⟨h1, h2⟩ := hr
    simp only []
    rw [h1]
    exact h2
  | goto l => exact hr.elim
  | ret => exact hr

/-- The ends of one round. -/
def roundT (E : Env) (n : Nat) (B : Code) (st : St) (f : X → Option (List Nat × List Nat)) : Tree (X × St) := cutT f (exec E n B st)

theorem Does.round {E : Env} (hE : EnvOk E) (n : Nat) {B : Code} {st : St} {R : X × St → Prop} (f : X → Option (List Nat × List Nat)) {T : Tree (X × St)} (e : roundT E n B st f = T) (h : T.sat R) : Does E B st R :=
  Does.run hE f n (by unfold roundT at e; rw [e]; exact h)

/-- Keep the same of every end. -/
def same (keep hs : List Nat) : X → Option (List Nat × List Nat) := fun _ => some (keep, hs)

theorem DoesL.stageTo {E : Env} (hE : EnvOk E) (n k : Nat) (keep hs : List Nat) {cs : List Code} {st st' : St} {R : X × St → Prop} (e : stageT E n (cs.take k) st keep hs = .leaf st') (h : DoesL E (cs.drop k) st' R) : DoesL E cs st R :=
  DoesL.stage hE n k keep hs (by rw [e]; exact h)

end Go.Proofs.Ytfkmooldindfjaa
