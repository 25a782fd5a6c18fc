/- What is proved: intagliolaw19.BatchSides returns true, for every input. No conditions. -/
import Derived.Test.YtibfppbffdedoaaZM9
set_option linter.unusedSectionVars false
set_option linter.unusedSimpArgs false
set_option linter.unusedVariables false
set_option maxRecDepth 100000
namespace Go.Proofs.Ytibfppbffdedoaa
open Go.ChangeShapes Go.WideShapes Go.ChangeAt Go.RowKit
theorem batchSides_lifted (os:Os) (started:os.Started) (H:Type) (enc:TypeId × Value->H) :
  ReturnsInHanded {} Try.checked os 9 .any (Rows.batchSidesSpec.pre6 enc Try.prog Try.f9 Rows.batchSidesRow.domain false) (Rows.batchSidesSpec.post enc Try.prog Try.f9 false true false false):=by
 refine ln (C:=Try.checked) RR Dm Try.func9 (by kernel_rfl) 9 rfl ?_ (by kernel_rfl) (tb:=4) (by kernel_rfl) (by kernel_rfl) (by kernel_rfl) started
  (ChangeSpec.witness6 (enc:=enc) (C:=Try.checked) false ⟨#[], #[.slice none 0 0,.slice none 0 0,.slice none 0 0,.slice none 0 0,vO zeroFr,vO zeroFr,vO zeroFr,vO zeroFr,vO (⟨zeroFr,zeroFr⟩:FF)],[]⟩ 20 (by kernel_rfl) (by kernel_rfl) (by kernel_rfl) (by kernel_rfl)) ?_
 ·intro H ds h
  match ds,h with
  | [d0,d1,d2,d3,d4,d5,d6,d7,d8],_=>rfl
 ·intro W base args ds p hval hA hsz
  have hval : ∀ (j:Nat) t v,[55,55,55,55,24,24,24,24,70][j]? = some t->args[j]? = some v->Value.okWide Try.prog W .any base t v:=fun j t v h1 h2=>hval j t v (by rw [<- Array.getElem?_toList];exact h1) h2
  have hsz:(DataW.weightsEach Try.prog [55,55,55,55,24,24,24,24,70] ds).all (· <= reachBytes)=true:=hsz
  have hA:DataW.TrodAll enc Try.prog W 0 (fun _=>true) true [55,55,55,55,24,24,24,24,70] args.toList ds p:=hA
  obtain ⟨v0,vs0,d0,ds0,p0,q0,e0,rfl,rfl,h0,r0⟩:=trodAll_cons hA
  obtain ⟨v1,vs1,d1,ds1,p1,q1,e1,rfl,rfl,h1,r1⟩:=trodAll_cons r0
  obtain ⟨v2,vs2,d2,ds2,p2,q2,e2,rfl,rfl,h2,r2⟩:=trodAll_cons r1
  obtain ⟨v3,vs3,d3,ds3,p3,q3,e3,rfl,rfl,h3,r3⟩:=trodAll_cons r2
  obtain ⟨v4,vs4,d4,ds4,p4,q4,e4,rfl,rfl,h4,r4⟩:=trodAll_cons r3
  obtain ⟨v5,vs5,d5,ds5,p5,q5,e5,rfl,rfl,h5,r5⟩:=trodAll_cons r4
  obtain ⟨v6,vs6,d6,ds6,p6,q6,e6,rfl,rfl,h6,r6⟩:=trodAll_cons r5
  obtain ⟨v7,vs7,d7,ds7,p7,q7,e7,rfl,rfl,h7,r7⟩:=trodAll_cons r6
  obtain ⟨v8,vs8,d8,ds8,p8,q8,e8,rfl,rfl,h8,r8⟩:=trodAll_cons r7
  obtain ⟨rfl,rfl,rfl⟩:=trodAll_nil r8
  subst e8
  subst e7
  subst e6
  subst e5
  subst e4
  subst e3
  subst e2
  subst e1
  obtain rfl:args = #[v0,v1,v2,v3,v4,v5,v6,v7,v8]:=by cases args;simp_all
  clear e0
  obtain ⟨a0,g0⟩:=jT (e:=24) (q:=22) hsz (j:=0) rfl rfl (by kernel_rfl) (by kernel_rfl) (by kernel_rfl) (by kernel_rfl) (by kernel_rfl) (by kernel_rfl) (hval 0 _ v0 rfl rfl) h0
  obtain ⟨a1,g1⟩:=jT (e:=24) (q:=22) hsz (j:=1) rfl rfl (by kernel_rfl) (by kernel_rfl) (by kernel_rfl) (by kernel_rfl) (by kernel_rfl) (by kernel_rfl) (hval 1 _ v1 rfl rfl) h1
  obtain ⟨a2,g2⟩:=jT (e:=24) (q:=22) hsz (j:=2) rfl rfl (by kernel_rfl) (by kernel_rfl) (by kernel_rfl) (by kernel_rfl) (by kernel_rfl) (by kernel_rfl) (hval 2 _ v2 rfl rfl) h2
  obtain ⟨a3,g3⟩:=jT (e:=24) (q:=22) hsz (j:=3) rfl rfl (by kernel_rfl) (by kernel_rfl) (by kernel_rfl) (by kernel_rfl) (by kernel_rfl) (by kernel_rfl) (hval 3 _ v3 rfl rfl) h3
  obtain ⟨a4,rfl⟩:=td (hval 4 _ v4 rfl rfl)
  obtain ⟨a5,rfl⟩:=td (hval 5 _ v5 rfl rfl)
  obtain ⟨a6,rfl⟩:=td (hval 6 _ v6 rfl rfl)
  obtain ⟨a7,rfl⟩:=td (hval 7 _ v7 rfl rfl)
  obtain ⟨a8,rfl⟩:=Qg (hval 8 _ v8 rfl rfl)
  exact nJ g0 g1 g2 g3 rfl rfl rfl rfl rfl
theorem batchSides_holds:Rows.BatchSidesSaid :=
 OpenClaim.holds_of_wide 9 Try.f9 rfl rfl rfl rfl rfl rfl rfl ⟨rfl,rfl,rfl,rfl,rfl⟩ rfl rfl rfl rfl rfl (by kernel_rfl) Try.func9 (by kernel_rfl)
  (of_decide_eq_true (by kernel_rfl)) (by unfold Func.isWrapper;first | (rw [if_pos (by decide +kernel)];kernel_rfl) | (rw [if_neg (by decide +kernel)];exact ⟨rfl,rfl⟩))
  (fun os started H enc _=>batchSides_lifted os started H enc)
end Go.Proofs.Ytibfppbffdedoaa