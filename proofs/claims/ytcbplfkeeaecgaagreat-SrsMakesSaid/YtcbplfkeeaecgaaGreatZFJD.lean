/- What is proved: intagliolaw17.SrsMakes returns true, for every input. No conditions. -/
import Derived.Test.YtcbplfkeeaecgaaGreatZF10
set_option linter.unusedSectionVars false
set_option linter.unusedSimpArgs false
set_option linter.unusedVariables false
set_option maxRecDepth 100000
namespace Go.Proofs.YtcbplfkeeaecgaaGreat
open Go.ChangeShapes Go.WideShapes Go.ChangeAt Go.RowKit
theorem srsMakes_lifted (os:Os) (started:os.Started) (H:Type) (enc:TypeId × Value->H) :
  ReturnsInHanded {} Tryz.checked os 5 .any (Rows.srsMakesSpec.pre6 enc Tryz.prog Tryz.f5 Rows.srsMakesRow.domain false) (Rows.srsMakesSpec.post enc Tryz.prog Tryz.f5 false true false false):=by
 refine law_lifted_of (C:=Tryz.checked) own' laidOut Tryz.func5 (by kernel_rfl) 4 rfl ?_ (by kernel_rfl) (tb:=4) (by kernel_rfl) (by kernel_rfl) (by kernel_rfl) started
  (ChangeSpec.witness6 (enc:=enc) (C:=Tryz.checked) false ⟨#[], #[rowV zeroFr,.int .i64 0,.int .u8 0,.int .u16 0],[]⟩ 20 (by kernel_rfl) (by kernel_rfl) (by kernel_rfl) (by kernel_rfl)) ?_
 ·intro H ds h
  match ds,h with
  | [d0,d1,d2,d3],_=>rfl
 ·intro W base args ds p hval hA hsz
  have hval : ∀ (j:Nat) t v,[24,3,5,57][j]? = some t->args[j]? = some v->Value.okWide Tryz.prog W .any base t v:=fun j t v h1 h2=>hval j t v (by rw [<- Array.getElem?_toList];exact h1) h2
  have hsz:(DataW.weightsEach Tryz.prog [24,3,5,57] ds).all (· <= reachBytes)=true:=hsz
  have hA:DataW.TrodAll enc Tryz.prog W 0 (fun _=>true) true [24,3,5,57] args.toList ds p:=hA
  obtain ⟨v0,vs0,d0,ds0,p0,q0,e0,rfl,rfl,h0,r0⟩:=trodAll_cons hA
  obtain ⟨v1,vs1,d1,ds1,p1,q1,e1,rfl,rfl,h1,r1⟩:=trodAll_cons r0
  obtain ⟨v2,vs2,d2,ds2,p2,q2,e2,rfl,rfl,h2,r2⟩:=trodAll_cons r1
  obtain ⟨v3,vs3,d3,ds3,p3,q3,e3,rfl,rfl,h3,r3⟩:=trodAll_cons r2
  obtain ⟨rfl,rfl,rfl⟩:=trodAll_nil r3
  subst e3
  subst e2
  subst e1
  obtain rfl:args = #[v0,v1,v2,v3]:=by cases args;simp_all
  clear e0
  obtain ⟨a0,rfl⟩:=fr_arg (hval 0 _ v0 rfl rfl)
  obtain ⟨a1,rfl⟩:=int_arg (by kernel_rfl) (by kernel_rfl) (hval 1 _ v1 rfl rfl)
  obtain ⟨a2,rfl⟩:=u8_arg (by kernel_rfl) (by kernel_rfl) (hval 2 _ v2 rfl rfl)
  obtain ⟨a3,rfl⟩:=u16_arg (by kernel_rfl) (by kernel_rfl) (hval 3 _ v3 rfl rfl)
  exact srsMakes_gives a0 a1 a2 a3 W
theorem srsMakes_holds:Rows.SrsMakesSaid :=
 OpenClaim.holds_of_wide 5 Tryz.f5 rfl rfl rfl rfl rfl rfl rfl ⟨rfl,rfl,rfl,rfl,rfl⟩ rfl rfl rfl rfl rfl (by kernel_rfl) Tryz.func5 (by kernel_rfl)
  (of_decide_eq_true (by kernel_rfl)) (by unfold Func.isWrapper;first | (rw [if_pos (by decide +kernel)];kernel_rfl) | (rw [if_neg (by decide +kernel)];exact ⟨rfl,rfl⟩))
  (fun os started H enc _=>srsMakes_lifted os started H enc)
end Go.Proofs.YtcbplfkeeaecgaaGreat