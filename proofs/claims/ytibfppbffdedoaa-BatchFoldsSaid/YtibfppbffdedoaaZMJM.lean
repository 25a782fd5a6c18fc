/- What is proved: intagliolaw19.BatchFolds returns true, for every input. No conditions. -/
import Derived.Test.YtibfppbffdedoaaZM9
set_option linter.unusedSectionVars false
set_option linter.unusedSimpArgs false
set_option linter.unusedVariables false
set_option maxRecDepth 100000
namespace Go.Proofs.Ytibfppbffdedoaa
open Go.ChangeShapes Go.WideShapes Go.ChangeAt Go.RowKit
theorem batchFolds_lifted (os:Os) (started:os.Started) (H:Type) (enc:TypeId × Value->H) :
  ReturnsInHanded {} Try.checked os 8 .any (Rows.batchFoldsSpec.pre6 enc Try.prog Try.f8 Rows.batchFoldsRow.domain false) (Rows.batchFoldsSpec.post enc Try.prog Try.f8 false true false false):=by
 refine ln (C:=Try.checked) RR Dm Try.func8 (by kernel_rfl) 3 rfl ?_ (by kernel_rfl) (tb:=4) (by kernel_rfl) (by kernel_rfl) (by kernel_rfl) started
  (ChangeSpec.witness6 (enc:=enc) (C:=Try.checked) false ⟨#[], #[.slice none 0 0,.slice none 0 0,vO zeroFr],[]⟩ 20 (by kernel_rfl) (by kernel_rfl) (by kernel_rfl) (by kernel_rfl)) ?_
 ·intro H ds h
  match ds,h with
  | [d0,d1,d2],_=>rfl
 ·intro W base args ds p hval hA hsz
  have hval : ∀ (j:Nat) t v,[60,55,24][j]? = some t->args[j]? = some v->Value.okWide Try.prog W .any base t v:=fun j t v h1 h2=>hval j t v (by rw [<- Array.getElem?_toList];exact h1) h2
  have hsz:(DataW.weightsEach Try.prog [60,55,24] ds).all (· <= reachBytes)=true:=hsz
  have hA:DataW.TrodAll enc Try.prog W 0 (fun _=>true) true [60,55,24] args.toList ds p:=hA
  obtain ⟨v0,vs0,d0,ds0,p0,q0,e0,rfl,rfl,h0,r0⟩:=trodAll_cons hA
  obtain ⟨v1,vs1,d1,ds1,p1,q1,e1,rfl,rfl,h1,r1⟩:=trodAll_cons r0
  obtain ⟨v2,vs2,d2,ds2,p2,q2,e2,rfl,rfl,h2,r2⟩:=trodAll_cons r1
  obtain ⟨rfl,rfl,rfl⟩:=trodAll_nil r2
  subst e2
  subst e1
  obtain rfl:args = #[v0,v1,v2]:=by cases args;simp_all
  clear e0
  obtain ⟨a0,g0⟩:=Hi (s:=55) (e:=24) (q:=22) hsz (j:=0) rfl rfl (by kernel_rfl) (by kernel_rfl) (by kernel_rfl) (by decide +kernel) (by kernel_rfl) (by kernel_rfl) (by kernel_rfl) (by kernel_rfl) (by kernel_rfl) (hval 0 _ v0 rfl rfl) h0
  obtain ⟨a1,g1⟩:=jT (e:=24) (q:=22) hsz (j:=1) rfl rfl (by kernel_rfl) (by kernel_rfl) (by kernel_rfl) (by kernel_rfl) (by kernel_rfl) (by kernel_rfl) (hval 1 _ v1 rfl rfl) h1
  obtain ⟨a2,rfl⟩:=td (hval 2 _ v2 rfl rfl)
  exact nK g0 g1 rfl
theorem batchFolds_holds:Rows.BatchFoldsSaid :=
 OpenClaim.holds_of_wide 8 Try.f8 rfl rfl rfl rfl rfl rfl rfl ⟨rfl,rfl,rfl,rfl,rfl⟩ rfl rfl rfl rfl rfl (by kernel_rfl) Try.func8 (by kernel_rfl)
  (of_decide_eq_true (by kernel_rfl)) (by unfold Func.isWrapper;first | (rw [if_pos (by decide +kernel)];kernel_rfl) | (rw [if_neg (by decide +kernel)];exact ⟨rfl,rfl⟩))
  (fun os started H enc _=>batchFolds_lifted os started H enc)
end Go.Proofs.Ytibfppbffdedoaa