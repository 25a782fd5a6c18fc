/- The executor, part o: any order that the edges of a region allow. -/
import Derived.Test.YtfkmooldindfjaaEn
set_option linter.unusedSimpArgs false
set_option linter.unusedVariables false
namespace Go.Proofs.Ytfkmooldindfjaa
open Go.RowKit

theorem ahead_listed {ops : List Oper} {listed : Array Bool} (hc : ∀ (j : Nat) (o : Oper), ops[j]? = some o → listed.getD j false = true → ∀ e ∈ o.after, Region.binds .any e = true → listed.getD e.on false = true) {i j : Nat}
    (h : Ahead ops i j) : (∀ o, ops[j]? = some o → ∀ e ∈ o.after, Region.binds .any e = true → listed.getD e.on false = true) → listed.getD i false = true := by
  induction h with
  | edge h he hb hi => intro H; rw [← hi]; exact H _ h _ he hb
  | step h he hb hk hr ih =>
    intro H
    have := H _ h _ he hb
    rw [hk] at this
    exact ih fun o ho e' he' hb' => hc _ o ho this e' he' hb'

theorem any_sound {E : Env} (hE : EnvOk E) {ops : List Oper} {Q : Exit → Act → World → Prop} {w0 : World} {st' : St} (hQ : ∀ a w, SRel w0 st' a w → Q .normal a w)
    (hback : ∀ (j : Nat) (o : Oper), ops[j]? = some o → ∀ e ∈ o.after, Region.binds .any e = true → e.on < j) :
    ∀ (n : Nat) (ents : List Ent) (listed : Array Bool) (st : St) (a : Act) (w : World), ents.length = n → SRel w0 st a w → Runs E ops ents st st' → Fresh E ents st.heap →
      (ents.Pairwise fun x y => (takes E x.o = true → x.id ≠ y.id) ∧ (takes E y.o = true → y.id ≠ x.id)) → (∀ x ∈ ents, ops[x.j]? = some x.o) →
      listed.size = ops.length → (∀ j, j < ops.length → (listed.getD j true = false ↔ ∃ x ∈ ents, x.j = j)) →
      (∀ (j : Nat) (o : Oper), ops[j]? = some o → listed.getD j false = true → ∀ e ∈ o.after, Region.binds .any e = true → listed.getD e.on false = true) →
      (ents.Pairwise fun x y => x.j < y.j) → (ents.Pairwise fun x y => Ahead ops x.j y.j ∨ Indep ops x y) → wpAny E.P .any ops.toArray Q n listed a w := by
  intro n
  induction n with
  | zero =>
    intro ents listed st a w hlen r hr _ _ _ hsz hl _ _ _
    have : ents = [] := List.eq_nil_of_length_eq_zero hlen
    subst this
    cases hr
    refine ⟨?_, hQ a w r⟩
    apply List.eq_nil_iff_forall_not_mem.2
    intro j hj
    obtain ⟨h0, o, ho, _⟩ := mem_ready.1 hj
    have hlt : j < ops.length := by
      have := (Array.getElem?_eq_some_iff.1 ho).1
      simpa using this
    obtain ⟨x, hx, _⟩ := (hl j hlt).1 h0
    cases hx
  | succ n ih =>
    intro ents listed st a w hlen r hr hf hid ho hsz hl hcl hasc hind
    refine ⟨fun hnil => ?_, fun i hi => ?_⟩
    · -- the first one that is left is ready
      exfalso
      cases ents with
      | nil => cases hlen
      | cons x ents =>
        have hxo := ho x (by simp)
        have hlt : x.j < ops.length := (List.getElem?_eq_some_iff.1 hxo).1
        have : x.j ∈ Region.ready .any ops.toArray listed := by
          rw [mem_ready]
          refine ⟨(hl x.j hlt).2 ⟨x, by simp, rfl⟩, x.o, by simpa using hxo, fun e he hb => ?_⟩
          have hon := hback x.j x.o hxo e he hb
          have hon2 : e.on < ops.length := by omega
          have hne : listed.getD e.on true ≠ false := by
            intro h0
            obtain ⟨y, hy, hyj⟩ := (hl e.on hon2).1 h0
            rcases List.mem_cons.1 hy with rfl | hy
            · omega
            · have := (List.pairwise_cons.1 hasc).1 y hy
              omega
          have hlt2 : e.on < listed.size := by omega
          simp only [Array.getD, hlt2, dif_pos] at hne ⊢
          simpa using hne
        rw [hnil] at this
        cases this
    · obtain ⟨h0, o, hio, hall⟩ := mem_ready.1 hi
      have hio' : ops[i]? = some o := by simpa using hio
      have hlt : i < ops.length := (List.getElem?_eq_some_iff.1 hio').1
      obtain ⟨x, hx, hxj⟩ := (hl i hlt).1 h0
      obtain ⟨p1, p2, rfl⟩ := List.append_of_mem hx
      have hxo : x.o = o := by
        have := ho x hx
        rw [hxj, hio'] at this
        cases this
        rfl
      subst hxo
      subst hxj
      -- all that stand ahead of it in the text are independent of it
      have hin : ∀ y ∈ p1, Indep ops y x := by
        intro y hy
        have hpw := List.pairwise_append.1 hind
        rcases hpw.2.2 y hy x (by simp) with h1 | h1
        · exfalso
          have hyo := ho y (by simp [hy])
          have hylt : y.j < ops.length := (List.getElem?_eq_some_iff.1 hyo).1
          have hyl := (hl y.j hylt).2 ⟨y, by simp [hy], rfl⟩
          have := ahead_listed hcl h1 (fun o' ho' e he hb => by
            rw [hio'] at ho'
            cases ho'
            exact hall e he hb)
          have hlt2 : y.j < listed.size := by omega
          simp only [Array.getD, hlt2, dif_pos] at this hyl
          rw [this] at hyl
          cases hyl
        · exact h1
      obtain ⟨hs1, hr1⟩ := Runs.first hE p1 st hin hr
      have hfx := hf x hx
      refine step_sound hE r hio' hfx.1 hfx.2 hs1 fun a' w' r' => ?_
      have hne : ∀ y ∈ p1 ++ p2, y.j ≠ x.j := by
        intro y hy
        have hpw := List.pairwise_append.1 hasc
        rcases List.mem_append.1 hy with hy | hy
        · have := hpw.2.2 y hy x (by simp); omega
        · have := (List.pairwise_cons.1 hpw.2.1).1 y hy; omega
      have hsub : (p1 ++ p2).Sublist (p1 ++ x :: p2) := List.Sublist.append (List.Sublist.refl _) (List.sublist_cons_self _ _)
      refine ih (p1 ++ p2) _ _ a' w' (by simp at hlen ⊢; omega) r' hr1 ?_ (hid.sublist hsub) (fun y hy => ho y (hsub.subset hy)) (by simpa using hsz) (fun j hj => ?_) (fun j o hj hjl e he hb => ?_) (hasc.sublist hsub) (hind.sublist hsub)
      · refine Fresh.step hs1 (fun y hy => hf y (hsub.subset hy)) fun y hy ht => ?_
        have hpw := List.pairwise_append.1 hid
        rcases List.mem_append.1 hy with hy | hy
        · exact (hpw.2.2 y hy x (by simp)).2 ht
        · exact ((List.pairwise_cons.1 hpw.2.1).1 y hy).1 ht
      · by_cases e : x.j = j
        · subst e
          have hlt2 : x.j < listed.size := by omega
          constructor
          · intro h; simp [Array.getD, hlt2] at h
          · rintro ⟨y, hy, hyj⟩; exact absurd hyj (hne y hy)
        · rw [getD_set_ne true e, hl j hj]
          constructor
          · rintro ⟨y, hy, hyj⟩
            rcases List.mem_append.1 hy with hy | hy
            · exact ⟨y, by simp [hy], hyj⟩
            · rcases List.mem_cons.1 hy with rfl | hy
              · exact absurd hyj e
              · exact ⟨y, by simp [hy], hyj⟩
          · rintro ⟨y, hy, hyj⟩
            exact ⟨y, hsub.subset hy, hyj⟩
      · by_cases e2 : x.j = j
        · subst e2
          rw [hio'] at hj
          cases hj
          exact getD_set_true (hall e he hb)
        · rw [getD_set_ne false e2] at hjl
          exact getD_set_true (hcl j o hj hjl e he hb)

/-! ## the check of a region's edges -/

theorem foldl_mask {ops : List Oper} {j : Nat} {o : Oper} (ho : ops[j]? = some o) (acc : List Nat) (hacc : ∀ (i m : Nat), acc[i]? = some m → ∀ k, Nat.testBit m k = true → Ahead ops k i) :
    ∀ (l : List Edge) (m : Nat), (∀ e ∈ l, e ∈ o.after) → (∀ k, Nat.testBit m k = true → Ahead ops k j) →
      ∀ k, Nat.testBit (l.foldl (fun m e => match Region.binds .any e with
        | true => m ||| (1 <<< e.on) ||| (match nth acc e.on with | some x => x | none => 0)
        | false => m) m) k = true → Ahead ops k j
  | [], m, _, hm, k, h => hm k h
  | e :: l, m, hl, hm, k, h => by
    simp only [List.foldl_cons] at h
    refine foldl_mask ho acc hacc l _ (fun e' he' => hl e' (by simp [he'])) (fun k' hk' => ?_) k h
    have hea := hl e (by simp)
    split at hk'
    · rename_i hb
      rw [Nat.testBit_or, Nat.testBit_or] at hk'
      simp only [Bool.or_eq_true] at hk'
      rcases hk' with (h1 | h1) | h1
      · exact hm k' h1
      · have : e.on = k' := by
          rw [Nat.one_shiftLeft, Nat.testBit_two_pow] at h1
          simpa using h1
        exact .edge ho hea hb this
      · rw [nth_get] at h1
        cases hn : acc[e.on]? with
        | none => rw [hn] at h1; simp at h1
        | some x => rw [hn] at h1; exact .step ho hea hb rfl (hacc _ x hn k' h1)
    · exact hm k' hk'

theorem predsOf_spec {ops : List Oper} : ∀ (os : List Oper) (acc : List Nat), (∃ pre, ops = pre ++ os ∧ pre.length = acc.length) → (∀ (i m : Nat), acc[i]? = some m → ∀ k, Nat.testBit m k = true → Ahead ops k i) →
    ∀ (i m : Nat), (predsOf os acc)[i]? = some m → ∀ k, Nat.testBit m k = true → Ahead ops k i
  | [], acc, _, hacc => by simpa [predsOf] using hacc
  | o :: rest, acc, ⟨pre, hpre, hlen⟩, hacc => by
    unfold predsOf
    refine predsOf_spec rest _ ⟨pre ++ [o], by simp [hpre], by simp [hlen]⟩ fun i m hm k hk => ?_
    rw [List.getElem?_append] at hm
    split at hm
    · exact hacc i m hm k hk
    · rename_i hi
      have hi2 : i = acc.length := by
        rcases Nat.lt_or_ge (i - acc.length) 1 with h1 | h1
        · omega
        · rw [List.getElem?_eq_none (by simpa using h1)] at hm; cases hm
      subst hi2
      simp only [Nat.sub_self, List.getElem?_cons_zero, Option.some.injEq] at hm
      subst hm
      have ho : ops[acc.length]? = some o := by rw [hpre, ← hlen]; simp
      exact foldl_mask ho acc hacc o.after.toList 0 (fun e he => by simpa using he) (fun k h => by simp at h) k hk

theorem pairOk_spec {ops : Array Oper} {x : Oper} {fx : Foot} {i : Nat} : ∀ {os : List Oper} {fs : List Foot} {ms : List Nat}, pairOk ops x fx os fs ms i = true →
    ∀ (k : Nat) (o : Oper), os[k]? = some o → ∃ f m, fs[k]? = some f ∧ ms[k]? = some m ∧ (Nat.testBit m i = true ∨ (x.apart ops o = true ∧ footApart fx f = true))
  | [], _, _, _ => by simp
  | o :: os, fs, ms, h => by
    intro k o' hk
    cases fs with
    | nil => simp [pairOk] at h
    | cons f fs =>
      cases ms with
      | nil => simp [pairOk] at h
      | cons m ms =>
        simp only [pairOk, Bool.and_eq_true, Bool.or_eq_true] at h
        cases k with
        | zero =>
          simp at hk
          subst hk
          exact ⟨f, m, rfl, rfl, h.1⟩
        | succ k =>
          simp only [List.getElem?_cons_succ] at hk ⊢
          exact pairOk_spec h.2 k o' hk

theorem edgesBack_spec {o : Oper} {i : Nat} (h : edgesBack o i = true) : ∀ e ∈ o.after, Region.binds .any e = true → e.on < i := by
  intro e he hb
  unfold edgesBack at h
  rw [List.all_eq_true] at h
  have := h e (by simpa using he)
  rw [hb] at this
  exact leB_le (a := e.on + 1) this

/-- All pairs of entries. -/
theorem allPairs_spec {ops : List Oper} {masks : List Nat} (hm : ∀ (i m : Nat), masks[i]? = some m → ∀ k, Nat.testBit m k = true → Ahead ops k i) :
    ∀ (ents : List Ent) (i : Nat) (ms : List Nat), (∀ k, ms[k]? = masks[i + k]?) → ents.map (·.j) = List.range' i ents.length →
      allPairs ops.toArray (ents.map (·.o)) (ents.map fun x => footOf x.out) ms i = true →
      (ents.Pairwise fun x y => Ahead ops x.j y.j ∨ Indep ops x y) ∧ ∀ x ∈ ents, ∀ e ∈ x.o.after, Region.binds .any e = true → e.on < x.j
  | [], _, _, _, _, _ => by simp
  | x :: ents, i, ms, hms, hj, h => by
    cases ms with
    | nil => simp [allPairs] at h
    | cons m ms =>
      simp only [List.map_cons, allPairs, Bool.and_eq_true] at h
      simp only [List.map_cons, List.length_cons, List.range'_succ, List.cons.injEq] at hj
      obtain ⟨hj1, hj2⟩ := hj
      have hms' : ∀ k, ms[k]? = masks[i + 1 + k]? := by
        intro k
        have := hms (k + 1)
        simp only [List.getElem?_cons_succ] at this
        rw [this]
        congr 1
        omega
      obtain ⟨i1, i2⟩ := allPairs_spec hm ents (i + 1) ms hms' hj2 h.2
      refine ⟨List.pairwise_cons.2 ⟨fun y hy => ?_, i1⟩, fun y hy => ?_⟩
      · obtain ⟨k, hk⟩ := List.mem_iff_getElem?.1 hy
        obtain ⟨f, m', hf, hm', hor⟩ := pairOk_spec h.1.2 k y.o (by rw [List.getElem?_map, hk]; rfl)
        rw [List.getElem?_map, hk] at hf
        cases hf
        have hyj : y.j = i + 1 + k := by
          have := congrArg (fun l : List Nat => l[k]?) hj2
          simp only [List.getElem?_map, hk, Option.map_some] at this
          rw [List.getElem?_range'] at this
          · simp at this; omega
          · exact (List.getElem?_eq_some_iff.1 hk).1
        rcases hor with h1 | h1
        · left
          rw [hms' k] at hm'
          rw [hj1, hyj]
          exact hm _ _ hm' i h1
        · right
          exact h1
      · rcases List.mem_cons.1 hy with rfl | hy
        · rw [hj1]
          exact edgesBack_spec h.1.1
        · exact i2 y hy

theorem range'_asc {ents : List Ent} {i n : Nat} (h : ents.map (·.j) = List.range' i n) : ents.Pairwise fun x y => x.j < y.j := by
  have : (ents.map (·.j)).Pairwise (· < ·) := by rw [h]; exact List.pairwise_lt_range'
  exact List.pairwise_map.1 this

theorem Shape.ops {E : Env} {L : Nat} : ∀ {rest : List Oper} {j id : Nat} {ents : List Ent}, Shape E L rest j id ents → ents.map (·.o) = rest
  | [], j, id, ents, h => by
    simp only [Shape] at h
    subst h
    rfl
  | o :: rest, j, id, ents, h => by
    cases ents with
    | nil => exact h.elim
    | cons x ents =>
      obtain ⟨rfl, h2, h3, h4⟩ := h
      simp [Shape.ops h4]

theorem SRel.more {w0 : World} {st : St} {a : Act} {w : World} (r : SRel w0 st a w) (n : Nat) : SRel w0 ⟨st.tmps, st.heap ++ unNamed n⟩ a w := by
  obtain ⟨β, h1, h2⟩ := r
  exact ⟨β, by show HRel w0 β (hpS (st.heap ++ unNamed n)) w; rw [hpS_append]; exact h1, by show TRel β (hpS (st.heap ++ unNamed n)) st.tmps a; rw [hpS_append]; exact h2⟩

theorem SRel.drew {w0 : World} {st : St} {a : Act} {w : World} (r : SRel w0 st a w) : SRel w0 st a { w with drawn := w.drawn + 1 } := by
  obtain ⟨β, h1, h2⟩ := r
  exact ⟨β, h1.mono ((Below.refl _ _).drew), h2⟩

theorem region_sound {E : Env} (hE : EnvOk E) {rid : Nat} {ops : Array Oper} {draw : Bool} {Q : Exit → Act → World → Prop} {R : St → Prop} {w0 : World} {st : St} {a : Act} {w : World} (r : SRel w0 st a w)
    (hs : (runRegion E ops.toList draw st).sat R) (hQ : ∀ st', R st' → ∀ a' w', SRel w0 st' a' w' → Q .normal a' w') : (Code.region rid ops draw).wp E.P Q a w := by
  unfold runRegion at hs
  rw [Tree.sat_bind] at hs
  obtain ⟨ents, st', h1, h2, h3⟩ := runOps_sat _ _ _ _ _ hs
  obtain ⟨i1, i2⟩ := h2.ids (Nat.le_refl _)
  obtain ⟨j1, j2⟩ := h2.at
  have hfr := h2.fresh
  have ho : ∀ x ∈ ents, ops.toList[x.j]? = some x.o := fun x hx => by simpa using (j2 x hx).2
  have hlen : ents.length = ops.toList.length := by
    have := congrArg List.length h2.ops
    simpa using this
  have hj : ents.map (·.j) = List.range ops.size := by
    rw [j1, List.range_eq_range', Array.length_toList]
  have hex : ∀ j, j < ops.toList.length → ∃ x ∈ ents, x.j = j := by
    intro j hjl
    have hm : j ∈ ents.map (·.j) := by rw [hj]; simpa using hjl
    obtain ⟨x, hx, hxj⟩ := List.mem_map.1 hm
    exact ⟨x, hx, hxj⟩
  have r' := r.more (countTakes E ops.toList)
  cases draw with
  | false =>
    refine wp_region ?_
    have := seq_sound hE (Q := Q) (w0 := w0) (st' := st') (fun a w h => hQ st' h3 a w h) ents _ a w r' h1 hfr i2 ho
    rw [hj] at this
    simpa using this
  | true =>
    simp only [] at h3
    split at h3
    · rename_i hfree
      simp only [List.append_nil, List.reverse_reverse] at hfree
      unfold freeOrder at hfree
      have hmask := predsOf_spec (ops := ops.toList) ops.toList [] ⟨[], rfl, rfl⟩ (by simp)
      rw [← h2.ops] at hfree
      rw [h2.ops] at hfree
      have hfree' : allPairs ops.toList.toArray (ents.map (·.o)) (ents.map fun x => footOf x.out) (predsOf ops.toList []) 0 = true := by
        rw [h2.ops]; exact hfree
      obtain ⟨q1, q2⟩ := allPairs_spec hmask ents 0 (predsOf ops.toList []) (fun k => by simp) (by rw [j1, hlen]) hfree'
      refine wp_region_any hE.mixed ?_
      have := any_sound hE (Q := Q) (w0 := w0) (st' := st') (fun a w h => hQ st' h3 a w h) (ops := ops.toList) (fun j o hjo e he hb => ?_) ops.size ents (Array.replicate ops.size false) _ a _ (by rw [hlen]; simp) r'.drew h1 hfr i2 ho (by simp)
        (fun j hj => ?_) (fun j o hjo hl => ?_) (range'_asc j1) q1
      · simpa using this
      · obtain ⟨x, hx, hxj⟩ := hex j (List.getElem?_eq_some_iff.1 hjo).1
        have := ho x hx
        rw [hxj, hjo] at this
        cases this
        rw [← hxj]
        exact q2 x hx e he hb
      · refine ⟨fun _ => hex j hj, fun _ => ?_⟩
        simp only [Array.length_toList] at hj
        simp [Array.getD, hj]
      · exfalso
        have hlt : j < ops.size := by simpa using (List.getElem?_eq_some_iff.1 hjo).1
        simp [Array.getD, hlt] at hl
    · exact h3.elim

end Go.Proofs.Ytfkmooldindfjaa
